/- api.Tell, plain.Place, and the laws' bare and placed, by contracts: an error is nil, an Errno, or an At. -/
import Derived.Test.YtejbigoacknfoaaGreatDoorErrB
import Derived.Deep.QuietTactic
import Derived.BigQuiet
set_option linter.unusedSectionVars false
set_option linter.unusedSimpArgs false
set_option linter.unusedVariables false
namespace Go.Proofs.YtejbigoacknfoaaGreatDoor
open Go.RowKit Go.Extern.Stop Go.Stop Go.Extern
set_option linter.unusedVariables false
set_option maxRecDepth 100000
/-- errors.errorType holds the handle of the type error -/
def EType (w : World) : Prop := w.cell? ⟨0, 0, none⟩ = some (.iface 311 (.agg #[.pointer (some ⟨13, 28, none⟩)]))
theorem EType.lt {w : World} (h : EType w) : 0 < w.heap.size := by
  unfold EType at h
  rcases Nat.lt_or_ge 0 w.heap.size with h0 | h1
  · exact h0
  · simp [World.cell?, Array.getElem?_eq_none h1] at h
theorem EType.below {w w' : World} (h : EType w) (hb : Below w.heap.size w w') : EType w' := by
  have := hb.cell (p := ⟨0, 0, none⟩) h.lt
  unfold EType; rw [this]; exact h
theorem EType.alloc {w : World} (h : EType w) (o : Obj) : EType (w.alloc o) := h.below ((Below.refl _ _).alloc (Nat.le_refl _) _)
/-- an error value: its number, and its place (-1: none) -/
inductive ErrIs (w : World) : Value → Nat → Int → Prop
  | nil : ErrIs w .nilIface 0 (-1)
  | bare (k : Nat) (h : 0 < k) : ErrIs w (.iface 22 (.int .i64 (k : Int))) k (-1)
  | at_ (k : Nat) (h : 0 < k) (pl : Int) (b : Nat) (h0 : w.cell? ⟨b, 0, none⟩ = some (.int .i64 (k : Int))) (h1 : w.cell? ⟨b, 1, none⟩ = some (.int .i64 pl)) : ErrIs w (.iface 175 (.pointer (some ⟨b, 0, none⟩))) k pl
theorem ErrIs.below {w w' : World} {v : Value} {k : Nat} {pl : Int} (h : ErrIs w v k pl) (hb : Below w.heap.size w w') : ErrIs w' v k pl := by
  cases h with
  | nil => exact .nil
  | bare k h => exact .bare k h
  | at_ k h pl b h0 h1 =>
    have hl : b < w.heap.size := block_lt_of_cell h0
    exact .at_ k h pl b ((hb.cell (p := ⟨b, 0, none⟩) hl).trans h0) ((hb.cell (p := ⟨b, 1, none⟩) hl).trans h1)
theorem ErrIs.errV (w : World) (k : Nat) : ErrIs w (errV 22 k) k (-1) := by
  by_cases h : k = 0
  · subst h; exact .nil
  · rw [errV_pos _ _ (by omega)]; exact .bare k (by omega)
theorem tell_any (v : Value) (k : Nat) (pl : Int) (w : World) (hg : EType w) (hv : ErrIs w v k pl) :
    Calls Tryz.prog 68 #[v] w fun e w' => e = .returned (.int .i64 (k : Int)) ∧ Below w.heap.size w w' := by
  cases hv with
  | nil =>
    go_enter Tryz.func68, Tryz.ntmps68
    go_wp2
    go_ret
    exact ⟨rfl, Below.refl _ _⟩
  | bare k h =>
    have h84 := as_hit (k : Int) ⟨w.heap.size, 0, none⟩ (.int .i64 0) (w.alloc (.cells #[.int .i64 0] 22)) (hg.alloc _) (by simp) (by simp)
    have H84 := hid h84; clear h84 h
    go_enter Tryz.func68, Tryz.ntmps68
    go_wp2_with (go_at_call 118; refine H84.out.mono ?_; rintro e w1 ⟨rfl, hc1, hb1⟩; clear H84)
    go_ret
    exact ⟨rfl, (((Below.refl _ _).alloc (Nat.le_refl _) _).setCell (p := ⟨w.heap.size, 0, none⟩) (Nat.le_refl _) _).trans (hb1.mono (by simp))⟩
  | at_ k h pl b h0 h1 =>
    have hl : b < w.heap.size := block_lt_of_cell h0
    have h84 := as_at (k : Int) pl ⟨b, 0, none⟩ ⟨w.heap.size, 0, none⟩ (.int .i64 0) (w.alloc (.cells #[.int .i64 0] 22)) (hg.alloc _) (by simp) (by simp) rfl (by rw [World.cell?_alloc_lt _ _ _ hl]; exact h0)
    have H84 := hid h84; clear h84 h
    go_enter Tryz.func68, Tryz.ntmps68
    go_wp2_with (go_at_call 118; refine H84.out.mono ?_; rintro e w1 ⟨rfl, hc1, hb1⟩; clear H84)
    go_ret
    exact ⟨rfl, (((Below.refl _ _).alloc (Nat.le_refl _) _).setCell (p := ⟨w.heap.size, 0, none⟩) (Nat.le_refl _) _).trans (hb1.mono (by simp))⟩
theorem ta_errno_at (v : Value) (w : World) : (Instr.typeAssert (.iface 22 v) 28 175 true).run Tryz.prog w = .ok (.tuple #[.pointer none, .bool false]) w := by kernel_rfl
theorem ta_at_at (v : Value) (w : World) : (Instr.typeAssert (.iface 175 v) 28 175 true).run Tryz.prog w = .ok (.tuple #[v, .bool true]) w := by kernel_rfl
theorem place_any (v : Value) (k : Nat) (pl : Int) (w : World) (hg : EType w) (hv : ErrIs w v k pl) :
    Calls Tryz.prog 64 #[v] w fun e w' => e = .returned (.tuple #[.int .i64 (k : Int), .int .i64 pl]) ∧ Below w.heap.size w w' := by
  have ht := tell_any v k pl w hg hv
  have Ht := hid ht; clear ht
  cases hv with
  | nil =>
    go_enter Tryz.func64, Tryz.ntmps64
    go_wp2_with (go_at_call 68; refine Ht.out.mono ?_; rintro e w1 ⟨rfl, hb1⟩; clear Ht)
    refine wp_loop_rounds 1 ?_
    rw [rounds_succ]
    go_wp2
    go_ret2
    exact ⟨rfl, hb1⟩
  | bare k h =>
    have ta2 : ∀ (v : Value) (w : World), (Instr.typeAssert (.iface 22 v) 28 198 true).run Tryz.prog w = .ok (.tuple #[.nilIface, .bool false]) w :=
      fun v w => run_typeAssert_lacksB Tryz.underlying198 (by kernel_rfl) (by kernel_rfl) v _ w
    clear h
    have ta1 := ta_errno_at
    go_enter Tryz.func64, Tryz.ntmps64
    go_wp2_with (go_at_call 68; refine Ht.out.mono ?_; rintro e w1 ⟨rfl, hb1⟩; clear Ht)
    refine wp_loop_rounds 1 ?_
    rw [rounds_succ]
    go_wp2
    go_ret2
    exact ⟨rfl, hb1⟩
  | at_ k h pl b h0 h1 =>
    have hl : b < w.heap.size := block_lt_of_cell h0
    have ta1 := ta_at_at
    go_enter Tryz.func64, Tryz.ntmps64
    go_wp2_with (go_at_call 68; refine Ht.out.mono ?_; rintro e w1 ⟨rfl, hb1⟩; clear Ht)
    have h01 := (hb1.cell (p := ⟨b, 0, none⟩) hl).trans h0
    have h11 := (hb1.cell (p := ⟨b, 1, none⟩) hl).trans h1
    clear h0 h1 h
    refine wp_loop_rounds 1 ?_
    rw [rounds_succ]
    go_wp2
    go_quiet (fail)
    go_wp2
    go_ret2
    exact ⟨rfl, below_drewN hb1 _⟩
theorem bare_ok (v : Value) (k : Nat) (w : World) (hg : EType w) (hv : ErrIs w v k (-1)) :
    Calls Tryz.prog 22 #[v, .int .i64 (k : Int)] w fun e w' => e = .returned (.bool true) ∧ Below w.heap.size w w' := by
  have hp := hid (place_any v k (-1) w hg hv)
  clear hv hg
  go_enter Tryz.func22, Tryz.ntmps22
  go_wp2_with (go_at_call 64; refine hp.out.mono ?_; rintro e w1 ⟨rfl, hb1⟩; clear hp)
  go_ret
  exact ⟨rfl, hb1⟩
theorem placed_ok (v : Value) (k : Nat) (pl : Int) (w : World) (hg : EType w) (hv : ErrIs w v k pl) :
    Calls Tryz.prog 16 #[v, .agg #[.int .i64 (k : Int), .int .i64 pl]] w fun e w' => e = .returned (.bool true) ∧ Below w.heap.size w w' := by
  have hp := fun w' (hb : Below w.heap.size w w') => hid (place_any v k pl w' (hg.below hb) (hv.below hb))
  clear hv hg
  go_enter Tryz.func16, Tryz.ntmps16
  go_wp2_with (go_at_call 64; refine (hp _ ((Below.refl _ _).alloc (Nat.le_refl _) _)).out.mono ?_; rintro e w1 ⟨rfl, hb1⟩; clear hp; have c0 : w1.cell? ⟨w.heap.size, 0, none⟩ = some (.int .i64 (k : Int)) := (hb1.cell (p := ⟨w.heap.size, 0, none⟩) (by simp)).trans (by simp); have c1 : w1.cell? ⟨w.heap.size, 1, none⟩ = some (.int .i64 pl) := (hb1.cell (p := ⟨w.heap.size, 1, none⟩) (by simp)).trans (by simp))
  go_ret
  exact ⟨rfl, ((Below.refl _ _).alloc (Nat.le_refl _) _).trans (hb1.mono (by simp))⟩
end Go.Proofs.YtejbigoacknfoaaGreatDoor
