/- The document's rows of PDUs: what each operation of the great region does. -/
import Derived.Test.YtbimlijhgeajjaaGreatDoorMono
import Derived.Test.YtbimlijhgeajjaaGreatDoorRange
import Derived.Test.YtbimlijhgeajjaaGreatDoorHeadPure
import Derived.Test.YtbimlijhgeajjaaGreatDoorProg
import Derived.OwnWalkIn
import Derived.TacticsInMore
set_option linter.unusedSectionVars false
set_option linter.unusedSimpArgs false
set_option linter.unusedVariables false
namespace Go.Proofs.YtbimlijhgeajjaaGreatDoor
open Go Go.RowKit
set_option linter.unusedVariables false
set_option maxRecDepth 100000
def FR.cells (f : FR) : List Value := [.string (bs f.name), .int .i64 (f.at_ : Int), .int .i64 (f.size : Int)]
def fieldCells (l : List FR) : List Value := l.flatMap FR.cells
def FR.val (f : FR) : Value := .agg #[.string (bs f.name), .int .i64 (f.at_ : Int), .int .i64 (f.size : Int)]
/-- a slice of fields, in a block of its own -/
def FS (base : Nat) (w : World) (v : Value) (l : List FR) : Prop := ∃ g, v = .slice (some ⟨g, 0, none⟩) l.length l.length ∧ base ≤ g ∧ Blk w g 175 (fieldCells l).toArray
theorem FS.below {base : Nat} {w w' : World} {v : Value} {l : List FR} (h : FS base w v l) (hb : Below w.heap.size w w') : FS base w' v l := by
  obtain ⟨g, h1, h2, h3⟩ := h
  exact ⟨g, h1, h2, h3.below hb⟩
/-- a row, as one value -/
def KD (base : Nat) (w : World) (v : Value) (r : HR) : Prop := ∃ s, v = .agg #[.int .i64 (r.op : Int), .string (bs r.name), .int .i64 (r.flags : Int), s] ∧ FS base w s r.fields
/-- all rows, in a block -/
def KAll (base : Nat) (w : World) (v : Value) : Prop := ∃ g ss, v = .slice (some ⟨g, 0, none⟩) 18 18 ∧ base ≤ g ∧ ss.length = 18 ∧ (∀ (i : Nat) (r : HR) (s : Value), headRows[i]? = some r → ss[i]? = some s → FS base w s r.fields) ∧
  Blk w g 237 (((headRows.zip ss).flatMap fun x => [Value.int .i64 (x.1.op : Int), .string (bs x.1.name), .int .i64 (x.1.flags : Int), x.2]).toArray)
inductive Sp where
  | any | fn | ptr (f : FR) | fld (f : FR) | fs (l : List FR) | kd (r : HR) | top
def Sat (base : Nat) : Sp → Value → World → Prop
  | .any, _, _ => True
  | .fn, v, _ => v = .func (.func 157) #[] #[]
  | .ptr f, v, w => ∃ g, v = .pointer (some ⟨g, 0, none⟩) ∧ Blk w g 175 f.cells.toArray
  | .fld f, v, _ => v = f.val
  | .fs l, v, w => FS base w v l
  | .kd r, v, w => KD base w v r
  | .top, v, w => KAll base w v
theorem sat_below {base : Nat} (sp : Sp) {v : Value} {w w' : World} (h : Sat base sp v w) (hb : Below w.heap.size w w') : Sat base sp v w' := by
  cases sp with
  | any => trivial
  | fn => exact h
  | ptr f => obtain ⟨g, h1, h2⟩ := h; exact ⟨g, h1, h2.below hb⟩
  | fld f => exact h
  | fs l => exact FS.below h hb
  | kd r => obtain ⟨s, h1, h2⟩ := h; exact ⟨s, h1, h2.below hb⟩
  | top => obtain ⟨g, ss, h1, h2, h3, h4, h5⟩ := h; exact ⟨g, ss, h1, h2, h3, fun i r s hr hs => (h4 i r s hr hs).below hb, h5.below hb⟩
theorem at_any (name : List UInt8) (a n : Int) (w : World) :
    Calls Tryz.prog 156 #[.string (bs name), .int .i64 a, .int .i64 n] w fun e w' => e = .returned (.agg #[.string (bs name), .int .i64 a, .int .i64 n]) ∧ Below w.heap.size w w' := by
  go_enter Tryz.func156, Tryz.ntmps156
  go_wp2
  refine bodyPost_ret (v := .agg #[.string (bs name), .int .i64 a, .int .i64 n]) (by simp [results, Tryz.results156, go_sem]) rfl ?_
  exact ⟨rfl, (Below.refl _ _).alloc (Nat.le_refl _) _⟩
theorem fn_any (v : Value) (w : World) :
    Calls Tryz.prog 157 #[v] w fun e w' => e = .returned v ∧ w' = w := by
  go_enter Tryz.func157, Tryz.ntmps157
  go_wp2
  go_ret
  exact ⟨rfl, rfl⟩
section ops
variable {n N base : Nat} {Q : Exit → Act → World → Prop} {Ctx : World → Prop} (kS : Nat → Sp) {o : Oper} {d : Tmp}
theorem k_move {t : Tmp} (ho : o.op = .move (.tmp t)) (hd : o.dst = some d) (hs : kS t = .fn) (hds : kS d = .fn) : MonoOp Fence.wide n Tryz.prog Q (fun t v w => Sat base (kS t) v w) Ctx N o d := by
  intro a w hC hN hR
  have h := hR t (by simp [ho, Op.operands])
  simp only [hs, Sat] at h
  unfold Oper.wpIn
  refine ⟨fun f hf => trivial, ?_⟩
  simp only [Fence.wide_round, Oper.semAt_none, execOp, ho]
  rw [h]
  refine ⟨_, rfl, ?_, Below.refl _ _⟩
  rw [hds]; rfl
theorem k_load {t : Tmp} {f : FR} (ho : o.op = .load 175 (.tmp t)) (hd : o.dst = some d) (hs : kS t = .ptr f) (hds : kS d = .fld f) : MonoOp Fence.wide n Tryz.prog Q (fun t v w => Sat base (kS t) v w) Ctx N o d := by
  intro a w hC hN hR
  have h := hR t (by simp [ho, Op.operands])
  simp only [hs, Sat] at h
  obtain ⟨g, hv, hB⟩ := h
  have c0 : w.cell? ⟨g, 0, none⟩ = some (.string (bs f.name)) := (hB.cell 0).trans rfl
  have c1 : w.cell? ⟨g, 1, none⟩ = some (.int .i64 (f.at_ : Int)) := (hB.cell 1).trans rfl
  have c2 : w.cell? ⟨g, 2, none⟩ = some (.int .i64 (f.size : Int)) := (hB.cell 2).trans rfl
  unfold Oper.wpIn
  refine ⟨fun f hf => trivial, ?_⟩
  simp only [Fence.wide_round, Oper.semAt_none, execOp, ho]
  rw [hv]
  simp [go_sem, c0, c1, c2, Oper.uponIn]
  exact ⟨_, rfl, by rw [hds]; rfl, Below.refl _ _⟩
theorem k_at {s : ByteArray} {x y : Int} {f : FR} {tys : Array TypeId} (ho : o.op = .call { callee := .value (.func 156), args := #[.const (.string s), .const (.int .i64 x), .const (.int .i64 y)], argTypes := tys }) (hd : o.dst = some d) (h1 : s = bs f.name) (h2 : x = (f.at_ : Int)) (h3 : y = (f.size : Int)) (hds : kS d = .fld f) : MonoOp Fence.wide n Tryz.prog Q (fun t v w => Sat base (kS t) v w) Ctx N o d := by
  intro a w hC hN hR
  subst h1 h2 h3
  unfold Oper.wpIn
  refine ⟨fun f hf => trivial, ?_⟩
  simp only [Fence.wide_round, Oper.semAt_none, execOp, ho]
  have hc : ∀ v, a.eval (.const v) = v := fun v => rfl
  have hf : ∀ v, a.eval (.func v) = .func (.func v) #[] #[] := fun v => rfl
  generalize a.eval = ρ at *
  simp [go_sem, resolve, invoke, Oper.uponIn, hc, hf]
  refine ⟨(fun h => by cases h), callsIn_wide.2 ((at_any f.name (f.at_ : Int) (f.size : Int) w).mono ?_)⟩
  rintro e w' ⟨rfl, hb⟩
  exact ⟨_, rfl, by rw [hds]; rfl, hb⟩
theorem k_fn {t u : Tmp} {l : List FR} {tys : Array TypeId} (ho : o.op = .call { callee := .value (.tmp t), args := #[.tmp u], argTypes := tys }) (hd : o.dst = some d) (hs : kS t = .fn) (hu : kS u = .fs l) (hds : kS d = .fs l) : MonoOp Fence.wide n Tryz.prog Q (fun t v w => Sat base (kS t) v w) Ctx N o d := by
  intro a w hC hN hR
  have h := hR t (by simp [ho, Op.operands, Call.operands])
  have h2 := hR u (by simp [ho, Op.operands, Call.operands])
  simp only [hs, hu, Sat] at h h2
  unfold Oper.wpIn
  refine ⟨fun f hf => trivial, ?_⟩
  simp only [Fence.wide_round, Oper.semAt_none, execOp, ho]
  generalize a.eval = ρ at *
  simp [go_sem, resolve, invoke, Oper.uponIn, h]
  refine ⟨(fun h => by cases h), callsIn_wide.2 ((fn_any _ w).mono ?_)⟩
  rintro e w' ⟨rfl, rfl⟩
  exact ⟨_, rfl, by rw [hds]; exact h2, Below.refl _ _⟩
theorem k_kd {u : Tmp} {r : HR} {x y : Int} {s : ByteArray} (ho : o.op = .build 237 #[(0, .const (.int .i64 x)), (1, .const (.string s)), (2, .const (.int .i64 y)), (3, .tmp u)]) (hd : o.dst = some d) (h1 : s = bs r.name) (h2 : x = (r.op : Int)) (h3 : y = (r.flags : Int)) (hu : kS u = .fs r.fields) (hds : kS d = .kd r) : MonoOp Fence.wide n Tryz.prog Q (fun t v w => Sat base (kS t) v w) Ctx N o d := by
  intro a w hC hN hR
  subst h1 h2 h3
  have h2 := hR u (by simp [ho, Op.operands])
  simp only [hu, Sat] at h2
  obtain ⟨g, hv, hg, hB⟩ := h2
  unfold Oper.wpIn
  refine ⟨fun f hf => trivial, ?_⟩
  simp only [Fence.wide_round, Oper.semAt_none, execOp, ho]
  have hc : ∀ v, a.eval (.const v) = v := fun v => rfl
  generalize a.eval = ρ at *
  simp [go_sem, Oper.uponIn, hv, hc]
  exact ⟨_, rfl, by rw [hds]; exact ⟨_, rfl, g, rfl, hg, hB⟩, Below.refl _ _⟩
theorem k_sl4 {t0 t1 t2 t3 : Tmp} {f0 f1 f2 f3 : FR} (ho : o.op = .buildSlice 171 4 #[(0, .tmp t0), (1, .tmp t1), (2, .tmp t2), (3, .tmp t3)]) (hd : o.dst = some d) (hb : ∀ w, Ctx w → base ≤ w.heap.size)
    (h0 : kS t0 = .fld f0) (h1 : kS t1 = .fld f1) (h2 : kS t2 = .fld f2) (h3 : kS t3 = .fld f3) (hds : kS d = .fs [f0, f1, f2, f3]) : MonoOp Fence.wide n Tryz.prog Q (fun t v w => Sat base (kS t) v w) Ctx N o d := by
  intro a w hC hN hR
  have g0 := hR t0 (by simp [ho, Op.operands])
  have g1 := hR t1 (by simp [ho, Op.operands])
  have g2 := hR t2 (by simp [ho, Op.operands])
  have g3 := hR t3 (by simp [ho, Op.operands])
  simp only [h0, h1, h2, h3, Sat, FR.val] at g0 g1 g2 g3
  unfold Oper.wpIn
  refine ⟨fun f hf => trivial, ?_⟩
  simp only [Fence.wide_round, Oper.semAt_none, execOp, ho]
  have hc : ∀ v, a.eval (.const v) = v := fun v => rfl
  generalize a.eval = ρ at *
  simp [go_sem, Oper.uponIn, g0, g1, g2, g3]
  refine ⟨_, rfl, ?_, (Below.refl _ _).alloc (Nat.le_refl _) _⟩
  rw [hds]
  exact ⟨_, rfl, hb w hC, Blk.new _ _ _⟩
theorem k_sl5 {t0 t1 t2 t3 t4 : Tmp} {f0 f1 f2 f3 f4 : FR} (ho : o.op = .buildSlice 171 5 #[(0, .tmp t0), (1, .tmp t1), (2, .tmp t2), (3, .tmp t3), (4, .tmp t4)]) (hd : o.dst = some d) (hb : ∀ w, Ctx w → base ≤ w.heap.size)
    (h0 : kS t0 = .fld f0) (h1 : kS t1 = .fld f1) (h2 : kS t2 = .fld f2) (h3 : kS t3 = .fld f3) (h4 : kS t4 = .fld f4) (hds : kS d = .fs [f0, f1, f2, f3, f4]) : MonoOp Fence.wide n Tryz.prog Q (fun t v w => Sat base (kS t) v w) Ctx N o d := by
  intro a w hC hN hR
  have g0 := hR t0 (by simp [ho, Op.operands])
  have g1 := hR t1 (by simp [ho, Op.operands])
  have g2 := hR t2 (by simp [ho, Op.operands])
  have g3 := hR t3 (by simp [ho, Op.operands])
  have g4 := hR t4 (by simp [ho, Op.operands])
  simp only [h0, h1, h2, h3, h4, Sat, FR.val] at g0 g1 g2 g3 g4
  unfold Oper.wpIn
  refine ⟨fun f hf => trivial, ?_⟩
  simp only [Fence.wide_round, Oper.semAt_none, execOp, ho]
  have hc : ∀ v, a.eval (.const v) = v := fun v => rfl
  generalize a.eval = ρ at *
  simp [go_sem, Oper.uponIn, g0, g1, g2, g3, g4]
  refine ⟨_, rfl, ?_, (Below.refl _ _).alloc (Nat.le_refl _) _⟩
  rw [hds]
  exact ⟨_, rfl, hb w hC, Blk.new _ _ _⟩
theorem k_sl6 {t0 t1 t2 t3 t4 t5 : Tmp} {f0 f1 f2 f3 f4 f5 : FR} (ho : o.op = .buildSlice 171 6 #[(0, .tmp t0), (1, .tmp t1), (2, .tmp t2), (3, .tmp t3), (4, .tmp t4), (5, .tmp t5)]) (hd : o.dst = some d) (hb : ∀ w, Ctx w → base ≤ w.heap.size)
    (h0 : kS t0 = .fld f0) (h1 : kS t1 = .fld f1) (h2 : kS t2 = .fld f2) (h3 : kS t3 = .fld f3) (h4 : kS t4 = .fld f4) (h5 : kS t5 = .fld f5) (hds : kS d = .fs [f0, f1, f2, f3, f4, f5]) : MonoOp Fence.wide n Tryz.prog Q (fun t v w => Sat base (kS t) v w) Ctx N o d := by
  intro a w hC hN hR
  have g0 := hR t0 (by simp [ho, Op.operands])
  have g1 := hR t1 (by simp [ho, Op.operands])
  have g2 := hR t2 (by simp [ho, Op.operands])
  have g3 := hR t3 (by simp [ho, Op.operands])
  have g4 := hR t4 (by simp [ho, Op.operands])
  have g5 := hR t5 (by simp [ho, Op.operands])
  simp only [h0, h1, h2, h3, h4, h5, Sat, FR.val] at g0 g1 g2 g3 g4 g5
  unfold Oper.wpIn
  refine ⟨fun f hf => trivial, ?_⟩
  simp only [Fence.wide_round, Oper.semAt_none, execOp, ho]
  have hc : ∀ v, a.eval (.const v) = v := fun v => rfl
  generalize a.eval = ρ at *
  simp [go_sem, Oper.uponIn, g0, g1, g2, g3, g4, g5]
  refine ⟨_, rfl, ?_, (Below.refl _ _).alloc (Nat.le_refl _) _⟩
  rw [hds]
  exact ⟨_, rfl, hb w hC, Blk.new _ _ _⟩
theorem k_sl7 {t0 t1 t2 t3 t4 t5 t6 : Tmp} {f0 f1 f2 f3 f4 f5 f6 : FR} (ho : o.op = .buildSlice 171 7 #[(0, .tmp t0), (1, .tmp t1), (2, .tmp t2), (3, .tmp t3), (4, .tmp t4), (5, .tmp t5), (6, .tmp t6)]) (hd : o.dst = some d) (hb : ∀ w, Ctx w → base ≤ w.heap.size)
    (h0 : kS t0 = .fld f0) (h1 : kS t1 = .fld f1) (h2 : kS t2 = .fld f2) (h3 : kS t3 = .fld f3) (h4 : kS t4 = .fld f4) (h5 : kS t5 = .fld f5) (h6 : kS t6 = .fld f6) (hds : kS d = .fs [f0, f1, f2, f3, f4, f5, f6]) : MonoOp Fence.wide n Tryz.prog Q (fun t v w => Sat base (kS t) v w) Ctx N o d := by
  intro a w hC hN hR
  have g0 := hR t0 (by simp [ho, Op.operands])
  have g1 := hR t1 (by simp [ho, Op.operands])
  have g2 := hR t2 (by simp [ho, Op.operands])
  have g3 := hR t3 (by simp [ho, Op.operands])
  have g4 := hR t4 (by simp [ho, Op.operands])
  have g5 := hR t5 (by simp [ho, Op.operands])
  have g6 := hR t6 (by simp [ho, Op.operands])
  simp only [h0, h1, h2, h3, h4, h5, h6, Sat, FR.val] at g0 g1 g2 g3 g4 g5 g6
  unfold Oper.wpIn
  refine ⟨fun f hf => trivial, ?_⟩
  simp only [Fence.wide_round, Oper.semAt_none, execOp, ho]
  have hc : ∀ v, a.eval (.const v) = v := fun v => rfl
  generalize a.eval = ρ at *
  simp [go_sem, Oper.uponIn, g0, g1, g2, g3, g4, g5, g6]
  refine ⟨_, rfl, ?_, (Below.refl _ _).alloc (Nat.le_refl _) _⟩
  rw [hds]
  exact ⟨_, rfl, hb w hC, Blk.new _ _ _⟩
theorem k_sl8 {t0 t1 t2 t3 t4 t5 t6 t7 : Tmp} {f0 f1 f2 f3 f4 f5 f6 f7 : FR} (ho : o.op = .buildSlice 171 8 #[(0, .tmp t0), (1, .tmp t1), (2, .tmp t2), (3, .tmp t3), (4, .tmp t4), (5, .tmp t5), (6, .tmp t6), (7, .tmp t7)]) (hd : o.dst = some d) (hb : ∀ w, Ctx w → base ≤ w.heap.size)
    (h0 : kS t0 = .fld f0) (h1 : kS t1 = .fld f1) (h2 : kS t2 = .fld f2) (h3 : kS t3 = .fld f3) (h4 : kS t4 = .fld f4) (h5 : kS t5 = .fld f5) (h6 : kS t6 = .fld f6) (h7 : kS t7 = .fld f7) (hds : kS d = .fs [f0, f1, f2, f3, f4, f5, f6, f7]) : MonoOp Fence.wide n Tryz.prog Q (fun t v w => Sat base (kS t) v w) Ctx N o d := by
  intro a w hC hN hR
  have g0 := hR t0 (by simp [ho, Op.operands])
  have g1 := hR t1 (by simp [ho, Op.operands])
  have g2 := hR t2 (by simp [ho, Op.operands])
  have g3 := hR t3 (by simp [ho, Op.operands])
  have g4 := hR t4 (by simp [ho, Op.operands])
  have g5 := hR t5 (by simp [ho, Op.operands])
  have g6 := hR t6 (by simp [ho, Op.operands])
  have g7 := hR t7 (by simp [ho, Op.operands])
  simp only [h0, h1, h2, h3, h4, h5, h6, h7, Sat, FR.val] at g0 g1 g2 g3 g4 g5 g6 g7
  unfold Oper.wpIn
  refine ⟨fun f hf => trivial, ?_⟩
  simp only [Fence.wide_round, Oper.semAt_none, execOp, ho]
  have hc : ∀ v, a.eval (.const v) = v := fun v => rfl
  generalize a.eval = ρ at *
  simp [go_sem, Oper.uponIn, g0, g1, g2, g3, g4, g5, g6, g7]
  refine ⟨_, rfl, ?_, (Below.refl _ _).alloc (Nat.le_refl _) _⟩
  rw [hds]
  exact ⟨_, rfl, hb w hC, Blk.new _ _ _⟩
theorem k_sl9 {t0 t1 t2 t3 t4 t5 t6 t7 t8 : Tmp} {f0 f1 f2 f3 f4 f5 f6 f7 f8 : FR} (ho : o.op = .buildSlice 171 9 #[(0, .tmp t0), (1, .tmp t1), (2, .tmp t2), (3, .tmp t3), (4, .tmp t4), (5, .tmp t5), (6, .tmp t6), (7, .tmp t7), (8, .tmp t8)]) (hd : o.dst = some d) (hb : ∀ w, Ctx w → base ≤ w.heap.size)
    (h0 : kS t0 = .fld f0) (h1 : kS t1 = .fld f1) (h2 : kS t2 = .fld f2) (h3 : kS t3 = .fld f3) (h4 : kS t4 = .fld f4) (h5 : kS t5 = .fld f5) (h6 : kS t6 = .fld f6) (h7 : kS t7 = .fld f7) (h8 : kS t8 = .fld f8) (hds : kS d = .fs [f0, f1, f2, f3, f4, f5, f6, f7, f8]) : MonoOp Fence.wide n Tryz.prog Q (fun t v w => Sat base (kS t) v w) Ctx N o d := by
  intro a w hC hN hR
  have g0 := hR t0 (by simp [ho, Op.operands])
  have g1 := hR t1 (by simp [ho, Op.operands])
  have g2 := hR t2 (by simp [ho, Op.operands])
  have g3 := hR t3 (by simp [ho, Op.operands])
  have g4 := hR t4 (by simp [ho, Op.operands])
  have g5 := hR t5 (by simp [ho, Op.operands])
  have g6 := hR t6 (by simp [ho, Op.operands])
  have g7 := hR t7 (by simp [ho, Op.operands])
  have g8 := hR t8 (by simp [ho, Op.operands])
  simp only [h0, h1, h2, h3, h4, h5, h6, h7, h8, Sat, FR.val] at g0 g1 g2 g3 g4 g5 g6 g7 g8
  unfold Oper.wpIn
  refine ⟨fun f hf => trivial, ?_⟩
  simp only [Fence.wide_round, Oper.semAt_none, execOp, ho]
  have hc : ∀ v, a.eval (.const v) = v := fun v => rfl
  generalize a.eval = ρ at *
  simp [go_sem, Oper.uponIn, g0, g1, g2, g3, g4, g5, g6, g7, g8]
  refine ⟨_, rfl, ?_, (Below.refl _ _).alloc (Nat.le_refl _) _⟩
  rw [hds]
  exact ⟨_, rfl, hb w hC, Blk.new _ _ _⟩
theorem k_sl10 {t0 t1 t2 t3 t4 t5 t6 t7 t8 t9 : Tmp} {f0 f1 f2 f3 f4 f5 f6 f7 f8 f9 : FR} (ho : o.op = .buildSlice 171 10 #[(0, .tmp t0), (1, .tmp t1), (2, .tmp t2), (3, .tmp t3), (4, .tmp t4), (5, .tmp t5), (6, .tmp t6), (7, .tmp t7), (8, .tmp t8), (9, .tmp t9)]) (hd : o.dst = some d) (hb : ∀ w, Ctx w → base ≤ w.heap.size)
    (h0 : kS t0 = .fld f0) (h1 : kS t1 = .fld f1) (h2 : kS t2 = .fld f2) (h3 : kS t3 = .fld f3) (h4 : kS t4 = .fld f4) (h5 : kS t5 = .fld f5) (h6 : kS t6 = .fld f6) (h7 : kS t7 = .fld f7) (h8 : kS t8 = .fld f8) (h9 : kS t9 = .fld f9) (hds : kS d = .fs [f0, f1, f2, f3, f4, f5, f6, f7, f8, f9]) : MonoOp Fence.wide n Tryz.prog Q (fun t v w => Sat base (kS t) v w) Ctx N o d := by
  intro a w hC hN hR
  have g0 := hR t0 (by simp [ho, Op.operands])
  have g1 := hR t1 (by simp [ho, Op.operands])
  have g2 := hR t2 (by simp [ho, Op.operands])
  have g3 := hR t3 (by simp [ho, Op.operands])
  have g4 := hR t4 (by simp [ho, Op.operands])
  have g5 := hR t5 (by simp [ho, Op.operands])
  have g6 := hR t6 (by simp [ho, Op.operands])
  have g7 := hR t7 (by simp [ho, Op.operands])
  have g8 := hR t8 (by simp [ho, Op.operands])
  have g9 := hR t9 (by simp [ho, Op.operands])
  simp only [h0, h1, h2, h3, h4, h5, h6, h7, h8, h9, Sat, FR.val] at g0 g1 g2 g3 g4 g5 g6 g7 g8 g9
  unfold Oper.wpIn
  refine ⟨fun f hf => trivial, ?_⟩
  simp only [Fence.wide_round, Oper.semAt_none, execOp, ho]
  have hc : ∀ v, a.eval (.const v) = v := fun v => rfl
  generalize a.eval = ρ at *
  simp [go_sem, Oper.uponIn, g0, g1, g2, g3, g4, g5, g6, g7, g8, g9]
  refine ⟨_, rfl, ?_, (Below.refl _ _).alloc (Nat.le_refl _) _⟩
  rw [hds]
  exact ⟨_, rfl, hb w hC, Blk.new _ _ _⟩
set_option maxHeartbeats 2000000 in
theorem k_top {t0 t1 t2 t3 t4 t5 t6 t7 t8 t9 t10 t11 t12 t13 t14 t15 t16 t17 : Tmp} {r0 r1 r2 r3 r4 r5 r6 r7 r8 r9 r10 r11 r12 r13 r14 r15 r16 r17 : HR} (ho : o.op = .buildSlice 234 18 #[(0, .tmp t0), (1, .tmp t1), (2, .tmp t2), (3, .tmp t3), (4, .tmp t4), (5, .tmp t5), (6, .tmp t6), (7, .tmp t7), (8, .tmp t8), (9, .tmp t9), (10, .tmp t10), (11, .tmp t11), (12, .tmp t12), (13, .tmp t13), (14, .tmp t14), (15, .tmp t15), (16, .tmp t16), (17, .tmp t17)]) (hd : o.dst = some d) (hb : ∀ w, Ctx w → base ≤ w.heap.size)
    (hrs : headRows = [r0, r1, r2, r3, r4, r5, r6, r7, r8, r9, r10, r11, r12, r13, r14, r15, r16, r17]) (h0 : kS t0 = .kd r0) (h1 : kS t1 = .kd r1) (h2 : kS t2 = .kd r2) (h3 : kS t3 = .kd r3) (h4 : kS t4 = .kd r4) (h5 : kS t5 = .kd r5) (h6 : kS t6 = .kd r6) (h7 : kS t7 = .kd r7) (h8 : kS t8 = .kd r8) (h9 : kS t9 = .kd r9) (h10 : kS t10 = .kd r10) (h11 : kS t11 = .kd r11) (h12 : kS t12 = .kd r12) (h13 : kS t13 = .kd r13) (h14 : kS t14 = .kd r14) (h15 : kS t15 = .kd r15) (h16 : kS t16 = .kd r16) (h17 : kS t17 = .kd r17) (hds : kS d = .top) : MonoOp Fence.wide n Tryz.prog Q (fun t v w => Sat base (kS t) v w) Ctx N o d := by
  intro a w hC hN hR
  have g0 := hR t0 (by simp [ho, Op.operands])
  have g1 := hR t1 (by simp [ho, Op.operands])
  have g2 := hR t2 (by simp [ho, Op.operands])
  have g3 := hR t3 (by simp [ho, Op.operands])
  have g4 := hR t4 (by simp [ho, Op.operands])
  have g5 := hR t5 (by simp [ho, Op.operands])
  have g6 := hR t6 (by simp [ho, Op.operands])
  have g7 := hR t7 (by simp [ho, Op.operands])
  have g8 := hR t8 (by simp [ho, Op.operands])
  have g9 := hR t9 (by simp [ho, Op.operands])
  have g10 := hR t10 (by simp [ho, Op.operands])
  have g11 := hR t11 (by simp [ho, Op.operands])
  have g12 := hR t12 (by simp [ho, Op.operands])
  have g13 := hR t13 (by simp [ho, Op.operands])
  have g14 := hR t14 (by simp [ho, Op.operands])
  have g15 := hR t15 (by simp [ho, Op.operands])
  have g16 := hR t16 (by simp [ho, Op.operands])
  have g17 := hR t17 (by simp [ho, Op.operands])
  simp only [h0, h1, h2, h3, h4, h5, h6, h7, h8, h9, h10, h11, h12, h13, h14, h15, h16, h17, Sat] at g0 g1 g2 g3 g4 g5 g6 g7 g8 g9 g10 g11 g12 g13 g14 g15 g16 g17
  obtain ⟨s0, g0, x0⟩ := g0
  obtain ⟨s1, g1, x1⟩ := g1
  obtain ⟨s2, g2, x2⟩ := g2
  obtain ⟨s3, g3, x3⟩ := g3
  obtain ⟨s4, g4, x4⟩ := g4
  obtain ⟨s5, g5, x5⟩ := g5
  obtain ⟨s6, g6, x6⟩ := g6
  obtain ⟨s7, g7, x7⟩ := g7
  obtain ⟨s8, g8, x8⟩ := g8
  obtain ⟨s9, g9, x9⟩ := g9
  obtain ⟨s10, g10, x10⟩ := g10
  obtain ⟨s11, g11, x11⟩ := g11
  obtain ⟨s12, g12, x12⟩ := g12
  obtain ⟨s13, g13, x13⟩ := g13
  obtain ⟨s14, g14, x14⟩ := g14
  obtain ⟨s15, g15, x15⟩ := g15
  obtain ⟨s16, g16, x16⟩ := g16
  obtain ⟨s17, g17, x17⟩ := g17
  unfold Oper.wpIn
  refine ⟨fun f hf => trivial, ?_⟩
  simp only [Fence.wide_round, Oper.semAt_none, execOp, ho]
  generalize a.eval = ρ at *
  simp [go_sem, Oper.uponIn, g0, g1, g2, g3, g4, g5, g6, g7, g8, g9, g10, g11, g12, g13, g14, g15, g16, g17]
  have hbw : ∀ o, Below w.heap.size w (w.alloc o) := fun o => (Below.refl _ _).alloc (Nat.le_refl _) _
  refine ⟨_, rfl, ?_, hbw _⟩
  rw [hds]
  refine ⟨_, [s0, s1, s2, s3, s4, s5, s6, s7, s8, s9, s10, s11, s12, s13, s14, s15, s16, s17], rfl, hb w hC, rfl, ?_, ?_⟩
  · rw [hrs]
    intro i r s hr hs
    match i, hr, hs with
    | 0, hr, hs => cases hr; cases hs; exact x0.below (hbw _)
    | 1, hr, hs => cases hr; cases hs; exact x1.below (hbw _)
    | 2, hr, hs => cases hr; cases hs; exact x2.below (hbw _)
    | 3, hr, hs => cases hr; cases hs; exact x3.below (hbw _)
    | 4, hr, hs => cases hr; cases hs; exact x4.below (hbw _)
    | 5, hr, hs => cases hr; cases hs; exact x5.below (hbw _)
    | 6, hr, hs => cases hr; cases hs; exact x6.below (hbw _)
    | 7, hr, hs => cases hr; cases hs; exact x7.below (hbw _)
    | 8, hr, hs => cases hr; cases hs; exact x8.below (hbw _)
    | 9, hr, hs => cases hr; cases hs; exact x9.below (hbw _)
    | 10, hr, hs => cases hr; cases hs; exact x10.below (hbw _)
    | 11, hr, hs => cases hr; cases hs; exact x11.below (hbw _)
    | 12, hr, hs => cases hr; cases hs; exact x12.below (hbw _)
    | 13, hr, hs => cases hr; cases hs; exact x13.below (hbw _)
    | 14, hr, hs => cases hr; cases hs; exact x14.below (hbw _)
    | 15, hr, hs => cases hr; cases hs; exact x15.below (hbw _)
    | 16, hr, hs => cases hr; cases hs; exact x16.below (hbw _)
    | 17, hr, hs => cases hr; cases hs; exact x17.below (hbw _)
    | k + 18, hr, hs => cases hr
  · rw [hrs]
    exact Blk.new _ _ _
theorem k_assign {u : Tmp} (ho : o.op = .assign (.tmp u)) (hd : o.dst = some d) (hu : kS u = .top) (hds : kS d = .top) : MonoOp Fence.wide n Tryz.prog Q (fun t v w => Sat base (kS t) v w) Ctx N o d := by
  intro a w hC hN hR
  have h := hR u (by simp [ho, Op.operands])
  simp only [hu, Sat] at h
  unfold Oper.wpIn
  refine ⟨fun f hf => trivial, ?_⟩
  simp only [Fence.wide_round, Oper.semAt_none, execOp, ho]
  refine ⟨_, rfl, ?_, Below.refl _ _⟩
  rw [hds]; exact h
end ops
end Go.Proofs.YtbimlijhgeajjaaGreatDoor
