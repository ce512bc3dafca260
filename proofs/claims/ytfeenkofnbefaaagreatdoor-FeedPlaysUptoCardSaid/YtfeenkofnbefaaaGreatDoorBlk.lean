/- api.Tell, plain.Place, and the laws' bare and placed, by contracts: an error is nil, an Errno, or an At. -/
import Derived.Test.YtfeenkofnbefaaaGreatDoorErrB
import Derived.Deep.QuietTactic
import Derived.BigQuiet
import Derived.Test.YtfeenkofnbefaaaGreatDoorRows
import Derived.Test.YtfeenkofnbefaaaGreatDoorCards
import Derived.Test.YtfeenkofnbefaaaGreatDoorTie
import Derived.ProofKit
import Derived.OpenShut
import Derived.ShutString
import Derived.ChangeSame
import Derived.ChangeVars
import Derived.JoinedOf
import Derived.RowKit
import Derived.RowKitTokens
import Derived.LaidLaws
import Derived.LaidHandle
import Derived.Stop.Joined
import Derived.SevenTiedAt
import Derived.LaidSub
import Derived.LaidMore
import Derived.Lay
import Derived.Lib.LaidTab
import Derived.Test.YtfeenkofnbefaaaGreatDoorBase
set_option linter.unusedSectionVars false
set_option linter.unusedSimpArgs false
set_option linter.unusedVariables false
namespace Go.Proofs.YtfeenkofnbefaaaGreatDoor
open Go.RowKit Go.Extern.Stop Go.Stop Go.Extern
set_option linter.unusedVariables false
set_option maxRecDepth 100000
/-- errors.errorType holds the handle of the type error -/
def EType (w : World) : Prop := w.cell? ⟨0, 0, none⟩ = some (.iface 283 (.agg #[.pointer (some ⟨13, 27, none⟩)]))
theorem EType.lt {w : World} (h : EType w) : 0 < w.heap.size := by
  unfold EType at h
  rcases Nat.lt_or_ge 0 w.heap.size with h0 | h1
  · exact h0
  · simp [World.cell?, Array.getElem?_eq_none h1] at h
theorem EType.below {w w' : World} (h : EType w) (hb : Below w.heap.size w w') : EType w' := by
  have := hb.cell (p := ⟨0, 0, none⟩) h.lt
  unfold EType; rw [this]; exact h
theorem EType.alloc {w : World} (h : EType w) (o : Obj) : EType (w.alloc o) := h.below ((Below.refl _ _).alloc (Nat.le_refl _) _)
/-- an error value: its number, and its place (-1: none) -/
inductive ErrIs (w : World) : Value → Nat → Int → Prop
  | nil : ErrIs w .nilIface 0 (-1)
  | bare (k : Nat) (h : 0 < k) : ErrIs w (.iface 31 (.int .i64 (k : Int))) k (-1)
  | at_ (k : Nat) (h : 0 < k) (pl : Int) (b : Nat) (h0 : w.cell? ⟨b, 0, none⟩ = some (.int .i64 (k : Int))) (h1 : w.cell? ⟨b, 1, none⟩ = some (.int .i64 pl)) : ErrIs w (.iface 144 (.pointer (some ⟨b, 0, none⟩))) k pl
theorem ErrIs.below {w w' : World} {v : Value} {k : Nat} {pl : Int} (h : ErrIs w v k pl) (hb : Below w.heap.size w w') : ErrIs w' v k pl := by
  cases h with
  | nil => exact .nil
  | bare k h => exact .bare k h
  | at_ k h pl b h0 h1 =>
    have hl : b < w.heap.size := block_lt_of_cell h0
    exact .at_ k h pl b ((hb.cell (p := ⟨b, 0, none⟩) hl).trans h0) ((hb.cell (p := ⟨b, 1, none⟩) hl).trans h1)
theorem ErrIs.errV (w : World) (k : Nat) : ErrIs w (errV 31 k) k (-1) := by
  by_cases h : k = 0
  · subst h; exact .nil
  · rw [errV_pos _ _ (by omega)]; exact .bare k (by omega)
theorem tell_any (v : Value) (k : Nat) (pl : Int) (w : World) (hg : EType w) (hv : ErrIs w v k pl) :
    Calls Tryz.prog 52 #[v] w fun e w' => e = .returned (.int .i64 (k : Int)) ∧ Below w.heap.size w w' := by
  cases hv with
  | nil =>
    go_enter Tryz.func52, Tryz.ntmps52
    go_wp2
    go_ret
    exact ⟨rfl, Below.refl _ _⟩
  | bare k h =>
    have h84 := as_hit (k : Int) ⟨w.heap.size, 0, none⟩ (.int .i64 0) (w.alloc (.cells #[.int .i64 0] 31)) (hg.alloc _) (by simp) (by simp)
    have H84 := hid h84; clear h84 h
    go_enter Tryz.func52, Tryz.ntmps52
    go_wp2_with (go_at_call 85; refine H84.out.mono ?_; rintro e w1 ⟨rfl, hc1, hb1⟩; clear H84)
    go_ret
    exact ⟨rfl, (((Below.refl _ _).alloc (Nat.le_refl _) _).setCell (p := ⟨w.heap.size, 0, none⟩) (Nat.le_refl _) _).trans (hb1.mono (by simp))⟩
  | at_ k h pl b h0 h1 =>
    have hl : b < w.heap.size := block_lt_of_cell h0
    have h84 := as_at (k : Int) pl ⟨b, 0, none⟩ ⟨w.heap.size, 0, none⟩ (.int .i64 0) (w.alloc (.cells #[.int .i64 0] 31)) (hg.alloc _) (by simp) (by simp) rfl (by rw [World.cell?_alloc_lt _ _ _ hl]; exact h0)
    have H84 := hid h84; clear h84 h
    go_enter Tryz.func52, Tryz.ntmps52
    go_wp2_with (go_at_call 85; refine H84.out.mono ?_; rintro e w1 ⟨rfl, hc1, hb1⟩; clear H84)
    go_ret
    exact ⟨rfl, (((Below.refl _ _).alloc (Nat.le_refl _) _).setCell (p := ⟨w.heap.size, 0, none⟩) (Nat.le_refl _) _).trans (hb1.mono (by simp))⟩
theorem ta_errno_at (v : Value) (w : World) : (Instr.typeAssert (.iface 31 v) 27 144 true).run Tryz.prog w = .ok (.tuple #[.pointer none, .bool false]) w := by kernel_rfl
theorem ta_at_at (v : Value) (w : World) : (Instr.typeAssert (.iface 144 v) 27 144 true).run Tryz.prog w = .ok (.tuple #[v, .bool true]) w := by kernel_rfl
theorem place_any (v : Value) (k : Nat) (pl : Int) (w : World) (hg : EType w) (hv : ErrIs w v k pl) :
    Calls Tryz.prog 44 #[v] w fun e w' => e = .returned (.tuple #[.int .i64 (k : Int), .int .i64 pl]) ∧ Below w.heap.size w w' := by
  have ht := tell_any v k pl w hg hv
  have Ht := hid ht; clear ht
  cases hv with
  | nil =>
    go_enter Tryz.func44, Tryz.ntmps44
    go_wp2_with (go_at_call 52; refine Ht.out.mono ?_; rintro e w1 ⟨rfl, hb1⟩; clear Ht)
    refine wp_loop_rounds 1 ?_
    rw [rounds_succ]
    go_wp2
    go_ret2
    exact ⟨rfl, hb1⟩
  | bare k h =>
    have ta2 : ∀ (v : Value) (w : World), (Instr.typeAssert (.iface 31 v) 27 184 true).run Tryz.prog w = .ok (.tuple #[.nilIface, .bool false]) w :=
      fun v w => run_typeAssert_lacksB Tryz.underlying184 (by kernel_rfl) (by kernel_rfl) v _ w
    clear h
    have ta1 := ta_errno_at
    go_enter Tryz.func44, Tryz.ntmps44
    go_wp2_with (go_at_call 52; refine Ht.out.mono ?_; rintro e w1 ⟨rfl, hb1⟩; clear Ht)
    refine wp_loop_rounds 1 ?_
    rw [rounds_succ]
    go_wp2
    go_ret2
    exact ⟨rfl, hb1⟩
  | at_ k h pl b h0 h1 =>
    have hl : b < w.heap.size := block_lt_of_cell h0
    have ta1 := ta_at_at
    go_enter Tryz.func44, Tryz.ntmps44
    go_wp2_with (go_at_call 52; refine Ht.out.mono ?_; rintro e w1 ⟨rfl, hb1⟩; clear Ht)
    have h01 := (hb1.cell (p := ⟨b, 0, none⟩) hl).trans h0
    have h11 := (hb1.cell (p := ⟨b, 1, none⟩) hl).trans h1
    clear h0 h1 h
    refine wp_loop_rounds 1 ?_
    rw [rounds_succ]
    go_wp2
    go_quiet (fail)
    go_wp2
    go_ret2
    exact ⟨rfl, below_drewN hb1 _⟩
theorem bare_ok (v : Value) (k : Nat) (w : World) (hg : EType w) (hv : ErrIs w v k (-1)) :
    Calls Tryz.prog 8 #[v, .int .i64 (k : Int)] w fun e w' => e = .returned (.bool true) ∧ Below w.heap.size w w' := by
  have hp := hid (place_any v k (-1) w hg hv)
  clear hv hg
  go_enter Tryz.func8, Tryz.ntmps8
  go_wp2_with (go_at_call 44; refine hp.out.mono ?_; rintro e w1 ⟨rfl, hb1⟩; clear hp)
  go_ret
  exact ⟨rfl, hb1⟩
theorem placed_ok (v : Value) (k : Nat) (pl : Int) (w : World) (hg : EType w) (hv : ErrIs w v k pl) :
    Calls Tryz.prog 20 #[v, .agg #[.int .i64 (k : Int), .int .i64 pl]] w fun e w' => e = .returned (.bool true) ∧ Below w.heap.size w w' := by
  have hp := fun w' (hb : Below w.heap.size w w') => hid (place_any v k pl w' (hg.below hb) (hv.below hb))
  clear hv hg
  go_enter Tryz.func20, Tryz.ntmps20
  go_wp2_with (go_at_call 44; refine (hp _ ((Below.refl _ _).alloc (Nat.le_refl _) _)).out.mono ?_; rintro e w1 ⟨rfl, hb1⟩; clear hp; have c0 : w1.cell? ⟨w.heap.size, 0, none⟩ = some (.int .i64 (k : Int)) := (hb1.cell (p := ⟨w.heap.size, 0, none⟩) (by simp)).trans (by simp); have c1 : w1.cell? ⟨w.heap.size, 1, none⟩ = some (.int .i64 pl) := (hb1.cell (p := ⟨w.heap.size, 1, none⟩) (by simp)).trans (by simp))
  go_ret
  exact ⟨rfl, ((Below.refl _ _).alloc (Nat.le_refl _) _).trans (hb1.mono (by simp))⟩
end Go.Proofs.YtfeenkofnbefaaaGreatDoor

namespace Go.Proofs.YtfeenkofnbefaaaGreatDoor.cardBase
open Go.ChangeShapes Go.WideShapes Go.RowKit
set_option linter.unusedVariables false
theorem looksOn : true = Tryz.pinned.checked.prog.looks [] := by kernel_rfl
def laid1 : List (String × DataW Unit) := [("errors.errorType", Rows.laid_errors_errorType)]
theorem own : ownKnob Tryz.prog.godebug = none := by kernel_rfl
theorem et : Tryz.prog.globalNamed "errors.errorType" = some 0 := by kernel_rfl
theorem rt : (Tryz.prog.cutTypes.find? (·.1 == "internal/reflectlite.rtype")).map (·.2) = some 283 := by kernel_rfl
theorem oneRow : ((List.range 402).filter fun t => Tryz.prog.rowNamed t [101, 114, 114, 111, 114]) = [27] := by kernel_rfl
theorem size : Tryz.prog.types.size = 402 := by kernel_rfl
theorem etype_of_laid {L : List (String × DataW Unit)} (hmem : ("errors.errorType", Rows.laid_errors_errorType) ∈ L) {W : World} (h : laidMetH Tryz.prog L W) : EType W := by
  have hm : ("errors.errorType", (Rows.laid_errors_errorType : DataW Unit)) ∈ L.filter fun x => x.2.handleName?.isSome := List.mem_filter.2 ⟨hmem, by kernel_rfl⟩
  obtain ⟨name, u, ty, e1, e2, e3, e4, e5⟩ := (laidMetH_iff.1 h).2 _ hm
  have en : name = [101, 114, 114, 111, 114] := (Option.some.inj e1).symm
  subst en
  obtain rfl := Option.some.inj (rt.symm.trans e2)
  have hm : ty ∈ (List.range 402).filter fun t => Tryz.prog.rowNamed t [101, 114, 114, 111, 114] := List.mem_filter.2 ⟨List.mem_range.2 (by rw [← size]; exact e3), e4⟩
  rw [oneRow] at hm
  obtain rfl := List.mem_singleton.1 hm
  have hh : typeHandle Tryz.prog 27 = .pointer (some ⟨13, 27, none⟩) := by kernel_rfl
  rw [hh] at e5
  simpa [EType] using World.var?_cell et e5 0
noncomputable def laidWorld (os : Os) : World :=
  let w0 := World.holding Tryz.prog os ⟨#[], #[], []⟩
  { w0 with heap := w0.heap.modify 0 fun
      | .cells _ t frozen => .cells #[.iface 283 (.agg #[.pointer (some ⟨13, 27, none⟩)])] t frozen
      | o => o }
theorem laidWorld_met (os : Os) (args : Array Value) : laidMetH Tryz.prog laid1 ((laidWorld os).forCall (fun _ _ => 0) ⟨#[], args, []⟩).memory :=
  laidMetH_of_parts (laidMet_nil _ _) (by kernel_rfl)
/-! ### a list that holds data, tables and the handle -/
noncomputable def laidWorldL (L : List (String × DataW Unit)) (os : Os) : World := (laidWorld os).layVars Tryz.prog (L.filter fun x => x.2.handleName?.isNone)
theorem laidWorldL_os (L : List (String × DataW Unit)) (os : Os) : (laidWorldL L os).os = os := World.layVars_os _ _ _
theorem laidWorldL_met (L : List (String × DataW Unit)) (os : Os) (args : Array Value)
    (hf : (laidWorld os).layFits Tryz.prog (L.filter fun x => x.2.handleName?.isNone) [] = true)
    (hi : (laidWorld os).layIfaces Tryz.prog (L.filter fun x => x.2.handleName?.isNone) (laidWorldL L os) = true)
    (hh : (L.filter fun x => x.2.handleName?.isSome).all (handleAtB Tryz.prog ((laidWorldL L os).forCall (fun _ _ => 0) ⟨#[], args, []⟩).memory) = true) :
    laidMetH Tryz.prog L ((laidWorldL L os).forCall (fun _ _ => 0) ⟨#[], args, []⟩).memory := by
  refine laidMetH_of_parts ?_ hh
  generalize hl : (L.filter fun x => x.2.handleName?.isNone) = laid at *
  have e1 : (laid.filter fun x => (laid.map (·.1)).contains x.1) = laid := List.filter_eq_self.2 fun x hx => List.contains_iff_mem.2 (List.mem_map.2 ⟨x, hx, rfl⟩)
  have e2 : (laid.filter fun x => !(laid.map (·.1)).contains x.1) = [] := List.filter_eq_nil_iff.2 fun x hx => by rw [List.contains_iff_mem.2 (List.mem_map.2 ⟨x, hx, rfl⟩)]; simp
  have h : laidMet Tryz.prog laid (laidWorldL L os) := laidMet_layVars (w0 := laidWorld os) (laid.map (·.1)) [] (by rw [e1, laidWorldL, hl]) (by rw [e1]; exact hf) (by rw [e1]; exact hi) (by rw [e2]; exact LaidIn.none)
  exact h.of_heap (by simp [World.memory, World.forCall, Input.heap])
/-- a table that a row lists stands -/
theorem tab_of_laid {L : List (String × DataW Unit)} {name : String} {k : IntKind} {zs : List Int} {g n : Nat} {t e : TypeId} (hfl : (L.filter fun x => x.2.handleName?.isNone).filter (fun x => x.1 == name) = [(name, Lib.tabData k zs)])
    (hg : Tryz.prog.globalNamed name = some g) (hty : (Tryz.prog.globals[g]?).map (·.type) = some t) (ht : Tryz.prog.underlying t = some (.array n e)) (he : Tryz.prog.underlying e = some (.int k)) (hce : Tryz.prog.cellsOf e = 1) (hct : Tryz.prog.cellsOf t = n)
    {W : World} (h : laidMetH Tryz.prog L W) : Lib.TabIs Tryz.prog W name k zs := by
  have h2 := ((laidMetH_iff.1 h).1).filter fun x => x.1 == name
  rw [hfl] at h2
  exact Lib.tabIs_of_head hg hty ht he hce hct h2
end Go.Proofs.YtfeenkofnbefaaaGreatDoor.cardBase

namespace Go.Proofs.YtfeenkofnbefaaaGreatDoor
open Go.RowKit
set_option linter.unusedVariables false
/-! ### one old block is written, all else stands -/
theorem only_refl (w : World) (r : Option Nat) : w.grownBy w r := ⟨rfl, rfl, rfl, Nat.le_refl _, fun _ _ _ => rfl⟩
theorem only_below {a w w' : World} {r : Option Nat} (h : a.grownBy w r) (hb : Below w.heap.size w w') : a.grownBy w' r :=
  ⟨hb.os.trans h.os, hb.tape.trans h.tape, hb.output.trans h.output, Nat.le_trans h.size hb.size, fun k hk hn => (hb.block k (Nat.lt_of_lt_of_le hk h.size)).trans (h.block k hk hn)⟩
theorem only_drewN {a w : World} {r : Option Nat} (h : a.grownBy w r) (n : Nat) : a.grownBy (w.drewN n) r := ⟨h.os, h.tape, h.output, h.size, h.block⟩
theorem only_alloc {a w : World} {r : Option Nat} (h : a.grownBy w r) (o : Obj) : a.grownBy (w.alloc o) r := only_below h ((Below.refl _ _).alloc (Nat.le_refl _) _)
theorem only_set {a w : World} {g : Nat} (h : a.grownBy w (some g)) (i : Nat) (u : Value) : a.grownBy (w.setCell ⟨g, i, none⟩ u) (some g) :=
  ⟨h.os, h.tape, h.output, by simpa [World.setCell] using h.size, fun k hk hn => by
    have hkg : k ≠ g := fun e => hn (by rw [e])
    exact (Below.heap_setCell w ⟨g, i, none⟩ u k hkg).trans (h.block k hk hn)⟩
theorem only_new {a w : World} {g : Nat} (h : a.grownBy w (some g)) {p : Addr} (hp : a.heap.size ≤ p.block) (u : Value) : a.grownBy (w.setCell p u) (some g) :=
  ⟨h.os, h.tape, h.output, by simpa [World.setCell] using h.size, fun k hk hn => (Below.heap_setCell w p u k (by intro e; omega)).trans (h.block k hk hn)⟩
theorem only_trans {a b c : World} {r : Option Nat} (h : a.grownBy b r) (k : b.grownBy c r) : a.grownBy c r :=
  ⟨k.os.trans h.os, k.tape.trans h.tape, k.output.trans h.output, Nat.le_trans h.size k.size, fun i hi hn => (k.block i (Nat.lt_of_lt_of_le hi h.size) hn).trans (h.block i hi hn)⟩
/-- what has been made since, one block of it written: nothing older has turned -/
theorem below_only {B : Nat} {a b c : World} (h : Below B a b) {g : Nat} (k : b.grownBy c (some g)) (hg : B ≤ g) (hB : B ≤ b.heap.size) : Below B a c :=
  h.trans ⟨k.os, k.tape, k.output, k.size, fun i hi => k.block i (by omega) (by intro e; cases e; omega)⟩
theorem below_setc {B : Nat} {a W : World} (h : Below B a W) {g : Nat} (hg : B ≤ g) (i : Nat) (u : Value) : Below B a (W.setCell ⟨g, i, none⟩ u) :=
  h.trans ⟨rfl, rfl, rfl, by simp [World.setCell], fun k hk => Below.heap_setCell W ⟨g, i, none⟩ u k (by simp only; omega)⟩
/-- a block known whole -/
def Blk (w : World) (g : Nat) (T : TypeId) (cs : Array Value) : Prop := w.heap[g]? = some (.cells cs T (0, 0))
theorem Blk.lt {w : World} {g : Nat} {T : TypeId} {cs : Array Value} (h : Blk w g T cs) : g < w.heap.size := by
  rcases Nat.lt_or_ge g w.heap.size with h1 | h1
  · exact h1
  · unfold Blk at h; rw [Array.getElem?_eq_none h1] at h; cases h
theorem Blk.cell {w : World} {g : Nat} {T : TypeId} {cs : Array Value} (h : Blk w g T cs) (i : Nat) : w.cell? ⟨g, i, none⟩ = cs[i]? := cell_of_row w g i cs T (0, 0) h
theorem Blk.free {w : World} {g : Nat} {T : TypeId} {cs : Array Value} (h : Blk w g T cs) (i : Nat) : w.frozen? ⟨g, i, none⟩ = false := frozen_of_row w g i cs T h
theorem Blk.new (w : World) (T : TypeId) (cs : Array Value) : Blk (w.alloc (.cells cs T)) w.heap.size T cs := heap_alloc_new w _
theorem Blk.below {w w' : World} {g : Nat} {T : TypeId} {cs : Array Value} (h : Blk w g T cs) (hb : Below w.heap.size w w') : Blk w' g T cs := (hb.block g h.lt).trans h
theorem Blk.only {w w' : World} {g r : Nat} {T : TypeId} {cs : Array Value} (h : Blk w g T cs) (hb : w.grownBy w' (some r)) (hr : g ≠ r) : Blk w' g T cs := (hb.block g h.lt (by intro e; cases e; exact hr rfl)).trans h
theorem Blk.set {w : World} {g : Nat} {T : TypeId} {cs : Array Value} (h : Blk w g T cs) (i : Nat) (u : Value) : Blk (w.setCell ⟨g, i, none⟩ u) g T (cs.setIfInBounds i u) := by
  unfold Blk at h ⊢
  simp [World.setCell, Array.getElem?_modify, h]
theorem Blk.far {w : World} {g : Nat} {T : TypeId} {cs : Array Value} (h : Blk w g T cs) {p : Addr} (hp : g ≠ p.block) (u : Value) : Blk (w.setCell p u) g T cs := (Below.heap_setCell w p u g hp).trans h
end Go.Proofs.YtfeenkofnbefaaaGreatDoor
