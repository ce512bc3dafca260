/- Two PDUs that read alike are alike, by the document. -/
import Derived.Test.YtfeenkofnbefaaaGreatDoorOpen
import Derived.Test.YtfeenkofnbefaaaGreatDoorPduRd
import Derived.Test.YtfeenkofnbefaaaGreatDoorPduRight
import Derived.Test.YtfeenkofnbefaaaGreatDoorAhs
import Derived.Deep.QuietTactic
import Derived.BigQuiet
set_option linter.unusedSectionVars false
set_option linter.unusedSimpArgs false
set_option linter.unusedVariables false
namespace Go.Proofs.YtfeenkofnbefaaaGreatDoor
open Go Go.RowKit
set_option linter.unusedVariables false
set_option linter.unusedSectionVars false
set_option linter.unusedSimpArgs false
set_option maxRecDepth 100000
theorem ahsC_length (xs : List (Nat × List UInt8)) : (ahsCells xs).length = xs.length * 2 := by
  induction xs with
  | nil => rfl
  | cons x xs ih => simp only [ahsCells, List.flatMap_cons, List.length_append, List.length_cons, List.length_nil] at ih ⊢; omega
theorem ahsC_at (xs : List (Nat × List UInt8)) (k : Nat) (h : k < xs.length) : (ahsCells xs)[2 * k]? = some (.int .i64 ((xs.getD k (0, [])).1 : Nat)) ∧ (ahsCells xs)[2 * k + 1]? = some (.string (bs (xs.getD k (0, [])).2)) := by
  induction xs generalizing k with
  | nil => simp at h
  | cons x xs ih =>
    cases k with
    | zero => simp [ahsCells]
    | succ k =>
      have := ih k (by simpa using h)
      have e : ahsCells (x :: xs) = .int .i64 (x.1 : Nat) :: .string (bs x.2) :: ahsCells xs := rfl
      rw [e]
      simp only [show 2 * (k + 1) = 2 * k + 1 + 1 by omega, show 2 * k + 1 + 1 + 1 = (2 * k + 1) + 1 + 1 by omega, List.getElem?_cons_succ, List.getD_cons_succ]
      exact this
/-- between the operations that copy two heads: what is done, and what the slots and the blocks hold -/
def SameI (w : World) (p : Nat) (C1 C2 H1 H2 HZ : Array Value) (D : Nat → Bool) (W : World) (x y : Nat) (u5 u6 u9 u10 u11 u12 : Value) : Prop :=
  (Blk W p 40 C1 ∧ Blk W (p + 1) 40 C2 ∧ Below p w W) ∧ ((D 6 = true → D 4 = true) ∧ (D 7 = true → D 5 = true)) ∧
  ((D 0 = true → u9 = .pointer (some ⟨p, 0, none⟩)) ∧ (D 1 = true → u10 = .agg H1) ∧ (D 2 = true → u11 = .pointer (some ⟨p + 1, 0, none⟩)) ∧ (D 3 = true → u12 = .agg H2)) ∧
  (D 4 = true → u5 = .pointer (some ⟨x, 0, none⟩) ∧ p + 1 < x ∧ Blk W x 37 (if D 6 = true then H1 else HZ)) ∧
  (D 5 = true → u6 = .pointer (some ⟨y, 0, none⟩) ∧ p + 1 < y ∧ Blk W y 37 (if D 7 = true then H2 else HZ)) ∧ (D 4 = true → D 5 = true → x ≠ y)
section
variable {w : World} {p : Nat} {C1 C2 H1 H2 HZ : Array Value} {D : Nat → Bool} {W : World} {x y : Nat} {u5 u6 u9 u10 u11 u12 : Value} (h : SameI w p C1 C2 H1 H2 HZ D W x y u5 u6 u9 u10 u11 u12)
include h
theorem SameI.b1 : Blk W p 40 C1 := h.1.1
theorem SameI.b2 : Blk W (p + 1) 40 C2 := h.1.2.1
theorem SameI.bw : Below p w W := h.1.2.2
theorem SameI.s9 (e : D 0 = true) : u9 = .pointer (some ⟨p, 0, none⟩) := h.2.2.1.1 e
theorem SameI.s10 (e : D 1 = true) : u10 = .agg H1 := h.2.2.1.2.1 e
theorem SameI.s11 (e : D 2 = true) : u11 = .pointer (some ⟨p + 1, 0, none⟩) := h.2.2.1.2.2.1 e
theorem SameI.s12 (e : D 3 = true) : u12 = .agg H2 := h.2.2.1.2.2.2 e
theorem SameI.s5 (e : D 4 = true) : u5 = .pointer (some ⟨x, 0, none⟩) := (h.2.2.2.1 e).1
theorem SameI.s6 (e : D 5 = true) : u6 = .pointer (some ⟨y, 0, none⟩) := (h.2.2.2.2.1 e).1
theorem SameI.x5 (e : D 4 = true) (k : D 6 = false) : Blk W x 37 HZ := by
  have := (h.2.2.2.1 e).2.2
  rwa [k, if_neg (by simp)] at this
theorem SameI.y5 (e : D 5 = true) (k : D 7 = false) : Blk W y 37 HZ := by
  have := (h.2.2.2.2.1 e).2.2
  rwa [k, if_neg (by simp)] at this
theorem SameI.x6 (e : D 4 = true) (k : D 6 = true) : p + 1 < x ∧ Blk W x 37 H1 := by
  have := (h.2.2.2.1 e).2
  rwa [k, if_pos rfl] at this
theorem SameI.y6 (e : D 5 = true) (k : D 7 = true) : p + 1 < y ∧ Blk W y 37 H2 := by
  have := (h.2.2.2.2.1 e).2
  rwa [k, if_pos rfl] at this
theorem SameI.op0 : SameI w p C1 C2 H1 H2 HZ (also D 0) W x y u5 u6 (.pointer (some ⟨p, 0, none⟩)) u10 u11 u12 := by
  obtain ⟨h1, h2, ⟨i0, i1, i2, i3⟩, h4, h5, h6⟩ := h
  exact ⟨h1, h2, ⟨fun _ => rfl, i1, i2, i3⟩, h4, h5, h6⟩
theorem SameI.op1 : SameI w p C1 C2 H1 H2 HZ (also D 1) W x y u5 u6 u9 (.agg H1) u11 u12 := by
  obtain ⟨h1, h2, ⟨i0, i1, i2, i3⟩, h4, h5, h6⟩ := h
  exact ⟨h1, h2, ⟨i0, fun _ => rfl, i2, i3⟩, h4, h5, h6⟩
theorem SameI.op2 : SameI w p C1 C2 H1 H2 HZ (also D 2) W x y u5 u6 u9 u10 (.pointer (some ⟨p + 1, 0, none⟩)) u12 := by
  obtain ⟨h1, h2, ⟨i0, i1, i2, i3⟩, h4, h5, h6⟩ := h
  exact ⟨h1, h2, ⟨i0, i1, fun _ => rfl, i3⟩, h4, h5, h6⟩
theorem SameI.op3 : SameI w p C1 C2 H1 H2 HZ (also D 3) W x y u5 u6 u9 u10 u11 (.agg H2) := by
  obtain ⟨h1, h2, ⟨i0, i1, i2, i3⟩, h4, h5, h6⟩ := h
  exact ⟨h1, h2, ⟨i0, i1, i2, fun _ => rfl⟩, h4, h5, h6⟩
theorem SameI.op4 (h4 : D 4 = false) : SameI w p C1 C2 H1 H2 HZ (also D 4) (W.alloc (.cells HZ 37)) W.heap.size y (.pointer (some ⟨W.heap.size, 0, none⟩)) u6 u9 u10 u11 u12 := by
  obtain ⟨⟨p1, p2, hW⟩, ⟨h64, h75⟩, i, -, h5, -⟩ := h
  have h6 : D 6 = false := by
    cases h : D 6
    · rfl
    · rw [h64 h] at h4; cases h4
  have hA := (Below.refl W.heap.size W).alloc (Nat.le_refl _) (.cells HZ 37)
  have l2 := p2.lt
  refine ⟨⟨p1.below hA, p2.below hA, hW.alloc (by omega) _⟩, ⟨fun _ => rfl, h75⟩, i, fun _ => ⟨rfl, l2, ?_⟩, fun h => ?_, fun _ h => ?_⟩
  · have e : also D 4 6 = false := h6
    rw [e]; exact Blk.new W _ _
  · obtain ⟨a, b, c⟩ := h5 h
    exact ⟨a, b, c.below hA⟩
  · obtain ⟨a, b, c⟩ := h5 h
    have := c.lt; omega
theorem SameI.op5 (h5 : D 5 = false) : SameI w p C1 C2 H1 H2 HZ (also D 5) (W.alloc (.cells HZ 37)) x W.heap.size u5 (.pointer (some ⟨W.heap.size, 0, none⟩)) u9 u10 u11 u12 := by
  obtain ⟨⟨p1, p2, hW⟩, ⟨h64, h75⟩, i, h4, -, -⟩ := h
  have h7 : D 7 = false := by
    cases h : D 7
    · rfl
    · rw [h75 h] at h5; cases h5
  have hA := (Below.refl W.heap.size W).alloc (Nat.le_refl _) (.cells HZ 37)
  have l2 := p2.lt
  refine ⟨⟨p1.below hA, p2.below hA, hW.alloc (by omega) _⟩, ⟨h64, fun _ => rfl⟩, i, fun h => ?_, fun _ => ⟨rfl, l2, ?_⟩, fun h _ => ?_⟩
  · obtain ⟨a, b, c⟩ := h4 h
    exact ⟨a, b, c.below hA⟩
  · have e : also D 5 7 = false := h7
    rw [e]; exact Blk.new W _ _
  · obtain ⟨a, b, c⟩ := h4 h
    have := c.lt; omega
end
theorem sameI_op6 {w : World} {p : Nat} {C1 C2 H2 : Array Value} {D : Nat → Bool} {W : World} {x y : Nat} {u5 u6 u9 u10 u11 u12 : Value} {a0 a1 a2 a3 z0 z1 z2 z3 : Value} (h : SameI w p C1 C2 #[a0, a1, a2, a3] H2 #[z0, z1, z2, z3] D W x y u5 u6 u9 u10 u11 u12) (h4 : D 4 = true) (h6 : D 6 = false) :
    SameI w p C1 C2 #[a0, a1, a2, a3] H2 #[z0, z1, z2, z3] (also D 6) ((((W.setCell ⟨x, 0, none⟩ a0).setCell ⟨x, 1, none⟩ a1).setCell ⟨x, 2, none⟩ a2).setCell ⟨x, 3, none⟩ a3) x y u5 u6 u9 u10 u11 u12 := by
  obtain ⟨⟨p1, p2, hW⟩, ⟨h64, h75⟩, i, hx, h5, hxy⟩ := h
  obtain ⟨rfl, hpx, hB⟩ := hx h4
  rw [h6, if_neg (by simp)] at hB
  refine ⟨⟨blk_off (blk_off (blk_off (blk_off p1 0 a0 (by omega)) 1 a1 (by omega)) 2 a2 (by omega)) 3 a3 (by omega), blk_off (blk_off (blk_off (blk_off p2 0 a0 (by omega)) 1 a1 (by omega)) 2 a2 (by omega)) 3 a3 (by omega), ?_⟩, ⟨fun _ => h4, h75⟩, i, fun _ => ⟨rfl, hpx, ?_⟩, fun h => ?_, hxy⟩
  · iterate 4 refine below_setc ?_ (by omega) _ _
    exact hW
  · exact (((hB.set 0 a0).set 1 a1).set 2 a2).set 3 a3
  · obtain ⟨a, b, c⟩ := h5 h
    have hne := (hxy h4 h).symm
    exact ⟨a, b, blk_off (blk_off (blk_off (blk_off c 0 a0 hne) 1 a1 hne) 2 a2 hne) 3 a3 hne⟩
theorem sameI_op7 {w : World} {p : Nat} {C1 C2 H1 : Array Value} {D : Nat → Bool} {W : World} {x y : Nat} {u5 u6 u9 u10 u11 u12 : Value} {a0 a1 a2 a3 z0 z1 z2 z3 : Value} (h : SameI w p C1 C2 H1 #[a0, a1, a2, a3] #[z0, z1, z2, z3] D W x y u5 u6 u9 u10 u11 u12) (h5 : D 5 = true) (h7 : D 7 = false) :
    SameI w p C1 C2 H1 #[a0, a1, a2, a3] #[z0, z1, z2, z3] (also D 7) ((((W.setCell ⟨y, 0, none⟩ a0).setCell ⟨y, 1, none⟩ a1).setCell ⟨y, 2, none⟩ a2).setCell ⟨y, 3, none⟩ a3) x y u5 u6 u9 u10 u11 u12 := by
  obtain ⟨⟨p1, p2, hW⟩, ⟨h64, h75⟩, i, h4, hy, hxy⟩ := h
  obtain ⟨rfl, hpy, hB⟩ := hy h5
  rw [h7, if_neg (by simp)] at hB
  refine ⟨⟨blk_off (blk_off (blk_off (blk_off p1 0 a0 (by omega)) 1 a1 (by omega)) 2 a2 (by omega)) 3 a3 (by omega), blk_off (blk_off (blk_off (blk_off p2 0 a0 (by omega)) 1 a1 (by omega)) 2 a2 (by omega)) 3 a3 (by omega), ?_⟩, ⟨h64, fun _ => h5⟩, i, fun h => ?_, fun _ => ⟨rfl, hpy, ?_⟩, hxy⟩
  · iterate 4 refine below_setc ?_ (by omega) _ _
    exact hW
  · obtain ⟨a, b, c⟩ := h4 h
    have hne := hxy h h5
    exact ⟨a, b, blk_off (blk_off (blk_off (blk_off c 0 a0 hne) 1 a1 hne) 2 a2 hne) 3 a3 hne⟩
  · exact (((hB.set 0 a0).set 1 a1).set 2 a2).set 3 a3
set_option maxHeartbeats 4000000 in
theorem same_true (op : Int) (now : Bool) (flags : Int) (v1 v2 a1 a2 : Value) (vs : List Nat) (xs : List (Nat × List UInt8)) (d : List UInt8) (w : World) (hv : vs.length ≤ 1000000) (ha : xs.length ≤ 1000000) (h1 : Sl w v1 1 vs.length (u64Cells vs)) (h2 : Sl w v2 1 vs.length (u64Cells vs)) (k1 : Sl w a1 2 xs.length (ahsCells xs)) (k2 : Sl w a2 2 xs.length (ahsCells xs)) :
    Calls Tryz.prog 10 #[pduV op now flags v1 a1 d, pduV op now flags v2 a2 d] w fun e w' => e = .returned (.bool true) ∧ Below w.heap.size w w' := by
  have hmx : Tryz.prog.follows .mixedOrders = true := by kernel_rfl
  have H1 := hid h1; have H2 := hid h2; have K1 := hid k1; have K2 := hid k2
  obtain ⟨b1, c1, rfl, _⟩ := h1
  obtain ⟨b2, c2, rfl, _⟩ := h2
  obtain ⟨e1, f1, rfl, _⟩ := k1
  obtain ⟨e2, f2, rfl, _⟩ := k2
  unfold pduV
  go_enter Tryz.func10, Tryz.ntmps10
  go_wp2_with fail
  have P1 := (Blk.new w 40 #[.int .i64 op, .bool now, .int .i64 flags, .slice b1 vs.length c1, .slice e1 xs.length f1, .string (bs d)])
  have hw1 := (Below.refl w.heap.size w).alloc (Nat.le_refl _) (.cells #[.int .i64 op, .bool now, .int .i64 flags, .slice b1 vs.length c1, .slice e1 xs.length f1, .string (bs d)] 40)
  have hs1 : (w.alloc (.cells #[.int .i64 op, .bool now, .int .i64 flags, .slice b1 vs.length c1, .slice e1 xs.length f1, .string (bs d)] 40)).heap.size = w.heap.size + 1 := by simp
  generalize w.alloc (.cells #[.int .i64 op, .bool now, .int .i64 flags, .slice b1 vs.length c1, .slice e1 xs.length f1, .string (bs d)] 40) = w1 at *
  have P2 := (Blk.new w1 40 #[.int .i64 op, .bool now, .int .i64 flags, .slice b2 vs.length c2, .slice e2 xs.length f2, .string (bs d)])
  have hw2 := (Below.refl w1.heap.size w1).alloc (Nat.le_refl _) (.cells #[.int .i64 op, .bool now, .int .i64 flags, .slice b2 vs.length c2, .slice e2 xs.length f2, .string (bs d)] 40)
  have P1 := P1.below hw2
  have hw2 := hw1.trans (hw2.mono hw1.size)
  rw [hs1] at P2
  generalize w1.alloc (.cells #[.int .i64 op, .bool now, .int .i64 flags, .slice b2 vs.length c2, .slice e2 xs.length f2, .string (bs d)] 40) = w2 at *
  clear hs1 hw1
  have hp2 := P2.lt
  refine wpIn_wide (n := 4).1 ?_
  refine region_open (fun A0 D A W => ∃ (x y : Nat) (u5 u6 u9 u10 u11 u12 : Value), A = putAll A0 [(5, u5), (6, u6), (9, u9), (10, u10), (11, u11), (12, u12)] ∧ SameI w w.heap.size #[.int .i64 op, .bool now, .int .i64 flags, .slice b1 vs.length c1, .slice e1 xs.length f1, .string (bs d)] #[.int .i64 op, .bool now, .int .i64 flags, .slice b2 vs.length c2, .slice e2 xs.length f2, .string (bs d)] #[.int .i64 op, .bool now, .int .i64 flags, .slice b1 vs.length c1] #[.int .i64 op, .bool now, .int .i64 flags, .slice b2 vs.length c2] #[.int .i64 0, .bool false, .int .i64 0, .slice none 0 0] D W x y u5 u6 u9 u10 u11 u12) hmx (by kernel_rfl) ⟨0, 0, undef, undef, undef, undef, undef, undef, ?_, ⟨P1, P2, hw2.drew⟩, by simp, by simp, by simp, by simp, by simp⟩ ?_ ?_
  · simp only [putAll, List.foldl_cons, List.foldl_nil, List.setIfInBounds_toArray, List.set_cons_zero, List.set_cons_succ]
  · refine ⟨?_, ?_, ?_, ?_, ?_, ?_, ?_, ?_, trivial⟩
    all_goals
      rintro D A W ⟨x, y, u5, u6, u9, u10, u11, u12, rfl, hI⟩ hD hdep
      refine ⟨by simp [go_sem, Oper.about], ?_⟩
    · simp [putAll, OpStep, go_sem]
      exact ⟨x, y, _, _, _, _, _, _, ⟨rfl, rfl, rfl, rfl, rfl, rfl⟩, hI.op0⟩
    · have h0 : D 0 = true := by
        simp [Region.binds] at hdep
        simp [hdep]
      have e := hI.s9 h0
      subst e
      have P1 := hI.b1
      have g0 : W.cell? ⟨w.heap.size, 0, none⟩ = some (.int .i64 op) := (P1.cell 0).trans rfl
      have g1 : W.cell? ⟨w.heap.size, 1, none⟩ = some (.bool now) := (P1.cell 1).trans rfl
      have g2 : W.cell? ⟨w.heap.size, 2, none⟩ = some (.int .i64 flags) := (P1.cell 2).trans rfl
      have g3 : W.cell? ⟨w.heap.size, 3, none⟩ = some (.slice b1 vs.length c1) := (P1.cell 3).trans rfl
      simp [putAll, OpStep, go_sem, g0, g1, g2, g3]
      exact ⟨x, y, _, _, _, _, _, _, ⟨rfl, rfl, rfl, rfl, rfl, rfl⟩, hI.op1⟩
    · simp [putAll, OpStep, go_sem]
      exact ⟨x, y, _, _, _, _, _, _, ⟨rfl, rfl, rfl, rfl, rfl, rfl⟩, hI.op2⟩
    · have h0 : D 2 = true := by
        simp [Region.binds] at hdep
        simp [hdep]
      have e := hI.s11 h0
      subst e
      have P1 := hI.b2
      have g0 : W.cell? ⟨w.heap.size + 1, 0, none⟩ = some (.int .i64 op) := (P1.cell 0).trans rfl
      have g1 : W.cell? ⟨w.heap.size + 1, 1, none⟩ = some (.bool now) := (P1.cell 1).trans rfl
      have g2 : W.cell? ⟨w.heap.size + 1, 2, none⟩ = some (.int .i64 flags) := (P1.cell 2).trans rfl
      have g3 : W.cell? ⟨w.heap.size + 1, 3, none⟩ = some (.slice b2 vs.length c2) := (P1.cell 3).trans rfl
      simp [putAll, OpStep, go_sem, g0, g1, g2, g3]
      exact ⟨x, y, _, _, _, _, _, _, ⟨rfl, rfl, rfl, rfl, rfl, rfl⟩, hI.op3⟩
    · simp [putAll, OpStep, go_sem]
      exact ⟨_, y, _, _, _, _, _, _, ⟨rfl, rfl, rfl, rfl, rfl, rfl⟩, hI.op4 hD⟩
    · simp [putAll, OpStep, go_sem]
      exact ⟨x, _, _, _, _, _, _, _, ⟨rfl, rfl, rfl, rfl, rfl, rfl⟩, hI.op5 hD⟩
    · simp [Region.binds] at hdep
      have d1 : D 1 = true := by simp [hdep]
      have d4 : D 4 = true := by simp [hdep]
      clear hdep
      have e := hI.s10 d1
      subst e
      have e := hI.s5 d4
      subst e
      have hB := hI.x5 d4 hD
      have v0 := hB.free 0
      have v1 := hB.free 1
      have v2 := hB.free 2
      have v3 := hB.free 3
      have t0 : W.cell? ⟨x, 0, none⟩ = some (.int .i64 0) := (hB.cell 0).trans rfl
      have t1 : W.cell? ⟨x, 1, none⟩ = some (.bool false) := (hB.cell 1).trans rfl
      have t2 : W.cell? ⟨x, 2, none⟩ = some (.int .i64 0) := (hB.cell 2).trans rfl
      have t3 : W.cell? ⟨x, 3, none⟩ = some (.slice none 0 0) := (hB.cell 3).trans rfl
      simp [putAll, OpStep, go_sem, v0, v1, v2, v3, t0, t1, t2, t3]
      exact ⟨x, y, _, _, _, _, _, _, ⟨rfl, rfl, rfl, rfl, rfl, rfl⟩, sameI_op6 hI d4 hD⟩
    · simp [Region.binds] at hdep
      have d1 : D 3 = true := by simp [hdep]
      have d5 : D 5 = true := by simp [hdep]
      clear hdep
      have e := hI.s12 d1
      subst e
      have e := hI.s6 d5
      subst e
      have hB := hI.y5 d5 hD
      have v0 := hB.free 0
      have v1 := hB.free 1
      have v2 := hB.free 2
      have v3 := hB.free 3
      have t0 : W.cell? ⟨y, 0, none⟩ = some (.int .i64 0) := (hB.cell 0).trans rfl
      have t1 : W.cell? ⟨y, 1, none⟩ = some (.bool false) := (hB.cell 1).trans rfl
      have t2 : W.cell? ⟨y, 2, none⟩ = some (.int .i64 0) := (hB.cell 2).trans rfl
      have t3 : W.cell? ⟨y, 3, none⟩ = some (.slice none 0 0) := (hB.cell 3).trans rfl
      simp [putAll, OpStep, go_sem, v0, v1, v2, v3, t0, t1, t2, t3]
      exact ⟨x, y, _, _, _, _, _, _, ⟨rfl, rfl, rfl, rfl, rfl, rfl⟩, sameI_op7 hI d5 hD⟩
  · rintro D A W hall ⟨x, y, u5, u6, u9, u10, u11, u12, rfl, hI⟩
    have al : ∀ j, j < 8 → D j = true := fun j hj => hall j (by simpa using hj)
    have e := hI.s9 (al 0 (by omega))
    subst e
    have e := hI.s10 (al 1 (by omega))
    subst e
    have e := hI.s11 (al 2 (by omega))
    subst e
    have e := hI.s12 (al 3 (by omega))
    subst e
    have e := hI.s5 (al 4 (by omega))
    subst e
    have e := hI.s6 (al 5 (by omega))
    subst e
    have P1 := hI.b1
    have P2 := hI.b2
    have hW := hI.bw
    obtain ⟨hpx, hBx⟩ := hI.x6 (al 4 (by omega)) (al 6 (by omega))
    obtain ⟨hpy, hBy⟩ := hI.y6 (al 5 (by omega)) (al 7 (by omega))
    clear hI hall al
    simp only [putAll, List.foldl_cons, List.foldl_nil, List.setIfInBounds_toArray, List.set_cons_zero, List.set_cons_succ]
    have H1 := hid (H1.out.below (by omega) hW)
    have H2 := hid (H2.out.below (by omega) hW)
    have K1 := hid (K1.out.below (by omega) hW)
    have K2 := hid (K2.out.below (by omega) hW)
    have x0 : W.cell? ⟨x, 0, none⟩ = some (.int .i64 op) := (hBx.cell 0).trans rfl
    have x1 : W.cell? ⟨x, 1, none⟩ = some (.bool now) := (hBx.cell 1).trans rfl
    have x2 : W.cell? ⟨x, 2, none⟩ = some (.int .i64 flags) := (hBx.cell 2).trans rfl
    have x3 : W.cell? ⟨x, 3, none⟩ = some (.slice b1 vs.length c1) := (hBx.cell 3).trans rfl
    have y0 : W.cell? ⟨y, 0, none⟩ = some (.int .i64 op) := (hBy.cell 0).trans rfl
    have y1 : W.cell? ⟨y, 1, none⟩ = some (.bool now) := (hBy.cell 1).trans rfl
    have y2 : W.cell? ⟨y, 2, none⟩ = some (.int .i64 flags) := (hBy.cell 2).trans rfl
    have y3 : W.cell? ⟨y, 3, none⟩ = some (.slice b2 vs.length c2) := (hBy.cell 3).trans rfl
    have p4 : W.cell? ⟨w.heap.size, 4, none⟩ = some (.slice e1 xs.length f1) := (P1.cell 4).trans rfl
    have p5 : W.cell? ⟨w.heap.size, 5, none⟩ = some (.string (bs d)) := (P1.cell 5).trans rfl
    have q4 : W.cell? ⟨w.heap.size + 1, 4, none⟩ = some (.slice e2 xs.length f2) := (P2.cell 4).trans rfl
    have q5 : W.cell? ⟨w.heap.size + 1, 5, none⟩ = some (.string (bs d)) := (P2.cell 5).trans rfl
    have HBx := hid hBx; have HBy := hid hBy; have HP1 := hid P1; have HP2 := hid P2
    clear hBx hBy P1 P2 hpx hpy hw2 hp2
    gi_wp2
    go_wp2_with fail
    go_loopw [7, 60] (fun i k wr => ∃ k' q : Nat, k' ≤ vs.length ∧ k = .int .i64 k' ∧ wr = W.drewN q) (fun i k _ => vs.length - (intOf k).toNat)
    case atStart => exact ⟨0, 0, by omega, rfl, rfl⟩
    case round =>
      obtain ⟨k, q, hk, rfl, rfl⟩ := hrel
      by_cases hlt : k < vs.length
      · obtain ⟨t1, o1, c1', he1, hb1, hd1⟩ := vals_open H1.out (by omega)
        obtain ⟨t2, o2, c2', he2, hb2, hd2⟩ := vals_open H2.out (by omega)
        cases he1; cases he2
        obtain ⟨z, hz⟩ : ∃ z, vs[k]? = some z := ⟨vs[k], List.getElem?_eq_getElem hlt⟩
        have g1 := hd1 k z hz
        have g2 := hd2 k z hz
        clear hd1 hd2
        go_wp2
        go_quiet (fail)
        go_wp2
        go_roundw
        case rel => exact ⟨k + 1, _, by omega, by go_num, rfl⟩
        case measure => simp [intOf]; omega
      · go_wp2
        clear hlt hk
        go_loopw [8, 78] (fun i k wr => ∃ k' q : Nat, k' ≤ xs.length ∧ k = .int .i64 k' ∧ wr = W.drewN q) (fun i k _ => xs.length - (intOf k).toNat)
        case atStart => exact ⟨0, q, by omega, rfl, rfl⟩
        case round =>
          clear q
          obtain ⟨k, q, hk, rfl, rfl⟩ := hrel
          by_cases hlt : k < xs.length
          · obtain ⟨b1', c1', he1, hl1, hc1⟩ := K1.out
            obtain ⟨b2', c2', he2, hl2, hc2⟩ := K2.out
            cases he1; cases he2
            obtain ⟨t1, o1, rfl, hd1⟩ := hc1.resolve_left (by omega)
            obtain ⟨t2, o2, rfl, hd2⟩ := hc2.resolve_left (by omega)
            obtain ⟨z1, z2⟩ := ahsC_at xs k hlt
            have g1 := hd1 _ _ z1
            have g2 := hd1 _ _ z2
            have g3 := hd2 _ _ z1
            have g4 := hd2 _ _ z2
            rw [Nat.mul_comm 2 k] at g1 g2 g3 g4
            simp only [← Nat.add_assoc] at g2 g4
            clear hd1 hd2 hc1 hc2 z1 z2
            generalize xs.getD k (0, []) = s at *
            obtain ⟨s1, s2⟩ := s
            simp only at g1 g2 g3 g4
            go_wp2
            go_quiet (fail)
            go_wp2
            go_roundw
            case rel => exact ⟨k + 1, _, by omega, by go_num, rfl⟩
            case measure => simp [intOf]; omega
          · go_wp2
            go_ret
            exact ⟨rfl, below_drewN hW _⟩
end Go.Proofs.YtfeenkofnbefaaaGreatDoor
