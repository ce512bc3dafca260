/- api.Tell, plain.Place, and the laws' bare and placed, by contracts: an error is nil, an Errno, or an At. -/
import Derived.Test.YtbimlijhgeajjaaGreatDoorErrB
import Derived.Deep.QuietTactic
import Derived.BigQuiet
import Derived.Test.YtbimlijhgeajjaaGreatDoorRows
import Derived.Test.YtbimlijhgeajjaaGreatDoorCards
import Derived.Test.YtbimlijhgeajjaaGreatDoorTie
import Derived.ProofKit
import Derived.OpenShut
import Derived.ShutString
import Derived.ChangeSame
import Derived.ChangeVars
import Derived.JoinedOf
import Derived.RowKit
import Derived.RowKitTokens
import Derived.LaidLaws
import Derived.LaidHandle
import Derived.Stop.Joined
import Derived.SevenTiedAt
import Derived.LaidSub
import Derived.LaidMore
import Derived.Lay
import Derived.Lib.LaidTab
import Derived.Test.YtbimlijhgeajjaaGreatDoorProg
import Derived.Test.YtbimlijhgeajjaaGreatDoorBase
import Derived.Lib.Bytealg
import Derived.Stop.Asserts
set_option linter.unusedSectionVars false
set_option linter.unusedSimpArgs false
set_option linter.unusedVariables false
namespace Go.Proofs.YtbimlijhgeajjaaGreatDoor
open Go.RowKit Go.Extern.Stop Go.Stop Go.Extern
set_option linter.unusedVariables false
set_option maxRecDepth 100000
/-- errors.errorType holds the handle of the type error -/
def EType (w : World) : Prop := w.cell? ⟨0, 0, none⟩ = some (.iface 268 (.agg #[.pointer (some ⟨13, 39, none⟩)]))
theorem EType.lt {w : World} (h : EType w) : 0 < w.heap.size := by
  unfold EType at h
  rcases Nat.lt_or_ge 0 w.heap.size with h0 | h1
  · exact h0
  · simp [World.cell?, Array.getElem?_eq_none h1] at h
theorem EType.below {w w' : World} (h : EType w) (hb : Below w.heap.size w w') : EType w' := by
  have := hb.cell (p := ⟨0, 0, none⟩) h.lt
  unfold EType; rw [this]; exact h
theorem EType.alloc {w : World} (h : EType w) (o : Obj) : EType (w.alloc o) := h.below ((Below.refl _ _).alloc (Nat.le_refl _) _)
/-- an error value: its number, and its place (-1: none) -/
inductive ErrIs (w : World) : Value → Nat → Int → Prop
  | nil : ErrIs w .nilIface 0 (-1)
  | bare (k : Nat) (h : 0 < k) : ErrIs w (.iface 32 (.int .i64 (k : Int))) k (-1)
  | at_ (k : Nat) (h : 0 < k) (pl : Int) (b : Nat) (h0 : w.cell? ⟨b, 0, none⟩ = some (.int .i64 (k : Int))) (h1 : w.cell? ⟨b, 1, none⟩ = some (.int .i64 pl)) : ErrIs w (.iface 98 (.pointer (some ⟨b, 0, none⟩))) k pl
theorem ErrIs.below {w w' : World} {v : Value} {k : Nat} {pl : Int} (h : ErrIs w v k pl) (hb : Below w.heap.size w w') : ErrIs w' v k pl := by
  cases h with
  | nil => exact .nil
  | bare k h => exact .bare k h
  | at_ k h pl b h0 h1 =>
    have hl : b < w.heap.size := block_lt_of_cell h0
    exact .at_ k h pl b ((hb.cell (p := ⟨b, 0, none⟩) hl).trans h0) ((hb.cell (p := ⟨b, 1, none⟩) hl).trans h1)
theorem ErrIs.errV (w : World) (k : Nat) : ErrIs w (errV 32 k) k (-1) := by
  by_cases h : k = 0
  · subst h; exact .nil
  · rw [errV_pos _ _ (by omega)]; exact .bare k (by omega)
theorem tell_any (v : Value) (k : Nat) (pl : Int) (w : World) (hg : EType w) (hv : ErrIs w v k pl) :
    Calls Tryz.prog 33 #[v] w fun e w' => e = .returned (.int .i64 (k : Int)) ∧ Below w.heap.size w w' := by
  cases hv with
  | nil =>
    go_enter Tryz.func33, Tryz.ntmps33
    go_wp2
    go_ret
    exact ⟨rfl, Below.refl _ _⟩
  | bare k h =>
    have h84 := as_hit (k : Int) ⟨w.heap.size, 0, none⟩ (.int .i64 0) (w.alloc (.cells #[.int .i64 0] 32)) (hg.alloc _) (by simp) (by simp)
    have H84 := hid h84; clear h84 h
    go_enter Tryz.func33, Tryz.ntmps33
    go_wp2_with (go_at_call 75; refine H84.out.mono ?_; rintro e w1 ⟨rfl, hc1, hb1⟩; clear H84)
    go_ret
    exact ⟨rfl, (((Below.refl _ _).alloc (Nat.le_refl _) _).setCell (p := ⟨w.heap.size, 0, none⟩) (Nat.le_refl _) _).trans (hb1.mono (by simp))⟩
  | at_ k h pl b h0 h1 =>
    have hl : b < w.heap.size := block_lt_of_cell h0
    have h84 := as_at (k : Int) pl ⟨b, 0, none⟩ ⟨w.heap.size, 0, none⟩ (.int .i64 0) (w.alloc (.cells #[.int .i64 0] 32)) (hg.alloc _) (by simp) (by simp) rfl (by rw [World.cell?_alloc_lt _ _ _ hl]; exact h0)
    have H84 := hid h84; clear h84 h
    go_enter Tryz.func33, Tryz.ntmps33
    go_wp2_with (go_at_call 75; refine H84.out.mono ?_; rintro e w1 ⟨rfl, hc1, hb1⟩; clear H84)
    go_ret
    exact ⟨rfl, (((Below.refl _ _).alloc (Nat.le_refl _) _).setCell (p := ⟨w.heap.size, 0, none⟩) (Nat.le_refl _) _).trans (hb1.mono (by simp))⟩
theorem ta_errno_at (v : Value) (w : World) : (Instr.typeAssert (.iface 32 v) 39 98 true).run Tryz.prog w = .ok (.tuple #[.pointer none, .bool false]) w := by kernel_rfl
theorem ta_at_at (v : Value) (w : World) : (Instr.typeAssert (.iface 98 v) 39 98 true).run Tryz.prog w = .ok (.tuple #[v, .bool true]) w := by kernel_rfl
theorem place_any (v : Value) (k : Nat) (pl : Int) (w : World) (hg : EType w) (hv : ErrIs w v k pl) :
    Calls Tryz.prog 41 #[v] w fun e w' => e = .returned (.tuple #[.int .i64 (k : Int), .int .i64 pl]) ∧ Below w.heap.size w w' := by
  have ht := tell_any v k pl w hg hv
  have Ht := hid ht; clear ht
  cases hv with
  | nil =>
    go_enter Tryz.func41, Tryz.ntmps41
    go_wp2_with (go_at_call 33; refine Ht.out.mono ?_; rintro e w1 ⟨rfl, hb1⟩; clear Ht)
    refine wp_loop_rounds 1 ?_
    rw [rounds_succ]
    go_wp2
    go_ret2
    exact ⟨rfl, hb1⟩
  | bare k h =>
    have ta2 : ∀ (v : Value) (w : World), (Instr.typeAssert (.iface 32 v) 39 179 true).run Tryz.prog w = .ok (.tuple #[.nilIface, .bool false]) w :=
      fun v w => run_typeAssert_lacksB Tryz.underlying179 (by kernel_rfl) (by kernel_rfl) v _ w
    clear h
    have ta1 := ta_errno_at
    go_enter Tryz.func41, Tryz.ntmps41
    go_wp2_with (go_at_call 33; refine Ht.out.mono ?_; rintro e w1 ⟨rfl, hb1⟩; clear Ht)
    refine wp_loop_rounds 1 ?_
    rw [rounds_succ]
    go_wp2
    go_ret2
    exact ⟨rfl, hb1⟩
  | at_ k h pl b h0 h1 =>
    have hl : b < w.heap.size := block_lt_of_cell h0
    have ta1 := ta_at_at
    go_enter Tryz.func41, Tryz.ntmps41
    go_wp2_with (go_at_call 33; refine Ht.out.mono ?_; rintro e w1 ⟨rfl, hb1⟩; clear Ht)
    have h01 := (hb1.cell (p := ⟨b, 0, none⟩) hl).trans h0
    have h11 := (hb1.cell (p := ⟨b, 1, none⟩) hl).trans h1
    clear h0 h1 h
    refine wp_loop_rounds 1 ?_
    rw [rounds_succ]
    go_wp2
    go_quiet (fail)
    go_wp2
    go_ret2
    exact ⟨rfl, below_drewN hb1 _⟩
theorem bare_ok (v : Value) (k : Nat) (w : World) (hg : EType w) (hv : ErrIs w v k (-1)) :
    Calls Tryz.prog 13 #[v, .int .i64 (k : Int)] w fun e w' => e = .returned (.bool true) ∧ Below w.heap.size w w' := by
  have hp := hid (place_any v k (-1) w hg hv)
  clear hv hg
  go_enter Tryz.func13, Tryz.ntmps13
  go_wp2_with (go_at_call 41; refine hp.out.mono ?_; rintro e w1 ⟨rfl, hb1⟩; clear hp)
  go_ret
  exact ⟨rfl, hb1⟩
theorem placed_ok (v : Value) (k : Nat) (pl : Int) (w : World) (hg : EType w) (hv : ErrIs w v k pl) :
    Calls Tryz.prog 18 #[v, .agg #[.int .i64 (k : Int), .int .i64 pl]] w fun e w' => e = .returned (.bool true) ∧ Below w.heap.size w w' := by
  have hp := fun w' (hb : Below w.heap.size w w') => hid (place_any v k pl w' (hg.below hb) (hv.below hb))
  clear hv hg
  go_enter Tryz.func18, Tryz.ntmps18
  go_wp2_with (go_at_call 41; refine (hp _ ((Below.refl _ _).alloc (Nat.le_refl _) _)).out.mono ?_; rintro e w1 ⟨rfl, hb1⟩; clear hp; have c0 : w1.cell? ⟨w.heap.size, 0, none⟩ = some (.int .i64 (k : Int)) := (hb1.cell (p := ⟨w.heap.size, 0, none⟩) (by simp)).trans (by simp); have c1 : w1.cell? ⟨w.heap.size, 1, none⟩ = some (.int .i64 pl) := (hb1.cell (p := ⟨w.heap.size, 1, none⟩) (by simp)).trans (by simp))
  go_ret
  exact ⟨rfl, ((Below.refl _ _).alloc (Nat.le_refl _) _).trans (hb1.mono (by simp))⟩
end Go.Proofs.YtbimlijhgeajjaaGreatDoor

namespace Go.Proofs.YtbimlijhgeajjaaGreatDoor.cardBase
open Go.ChangeShapes Go.WideShapes Go.RowKit
set_option linter.unusedVariables false
theorem looksOn : true = Tryz.pinned.checked.prog.looks [] := by kernel_rfl
def laid1 : List (String × DataW Unit) := [("errors.errorType", Rows.laid_errors_errorType)]
theorem own : ownKnob Tryz.prog.godebug = none := by kernel_rfl
theorem et : Tryz.prog.globalNamed "errors.errorType" = some 0 := by kernel_rfl
theorem rt : (Tryz.prog.cutTypes.find? (·.1 == "internal/reflectlite.rtype")).map (·.2) = some 268 := by kernel_rfl
theorem oneRow : ((List.range 389).filter fun t => Tryz.prog.rowNamed t [101, 114, 114, 111, 114]) = [39] := by kernel_rfl
theorem size : Tryz.prog.types.size = 389 := by kernel_rfl
theorem etype_of_laid {L : List (String × DataW Unit)} (hmem : ("errors.errorType", Rows.laid_errors_errorType) ∈ L) {W : World} (h : laidMetH Tryz.prog L W) : EType W := by
  have hm : ("errors.errorType", (Rows.laid_errors_errorType : DataW Unit)) ∈ L.filter fun x => x.2.handleName?.isSome := List.mem_filter.2 ⟨hmem, by kernel_rfl⟩
  obtain ⟨name, u, ty, e1, e2, e3, e4, e5⟩ := (laidMetH_iff.1 h).2 _ hm
  have en : name = [101, 114, 114, 111, 114] := (Option.some.inj e1).symm
  subst en
  obtain rfl := Option.some.inj (rt.symm.trans e2)
  have hm : ty ∈ (List.range 389).filter fun t => Tryz.prog.rowNamed t [101, 114, 114, 111, 114] := List.mem_filter.2 ⟨List.mem_range.2 (by rw [← size]; exact e3), e4⟩
  rw [oneRow] at hm
  obtain rfl := List.mem_singleton.1 hm
  have hh : typeHandle Tryz.prog 39 = .pointer (some ⟨13, 39, none⟩) := by kernel_rfl
  rw [hh] at e5
  simpa [EType] using World.var?_cell et e5 0
noncomputable def laidWorld (os : Os) : World :=
  let w0 := World.holding Tryz.prog os ⟨#[], #[], []⟩
  { w0 with heap := w0.heap.modify 0 fun
      | .cells _ t frozen => .cells #[.iface 268 (.agg #[.pointer (some ⟨13, 39, none⟩)])] t frozen
      | o => o }
theorem laidWorld_met (os : Os) (args : Array Value) : laidMetH Tryz.prog laid1 ((laidWorld os).forCall (fun _ _ => 0) ⟨#[], args, []⟩).memory :=
  laidMetH_of_parts (laidMet_nil _ _) (by kernel_rfl)
/-! ### a list that holds data, tables and the handle -/
noncomputable def laidWorldL (L : List (String × DataW Unit)) (os : Os) : World := (laidWorld os).layVars Tryz.prog (L.filter fun x => x.2.handleName?.isNone)
theorem laidWorldL_os (L : List (String × DataW Unit)) (os : Os) : (laidWorldL L os).os = os := World.layVars_os _ _ _
theorem laidWorldL_met (L : List (String × DataW Unit)) (os : Os) (args : Array Value)
    (hf : (laidWorld os).layFits Tryz.prog (L.filter fun x => x.2.handleName?.isNone) [] = true)
    (hi : (laidWorld os).layIfaces Tryz.prog (L.filter fun x => x.2.handleName?.isNone) (laidWorldL L os) = true)
    (hh : (L.filter fun x => x.2.handleName?.isSome).all (handleAtB Tryz.prog ((laidWorldL L os).forCall (fun _ _ => 0) ⟨#[], args, []⟩).memory) = true) :
    laidMetH Tryz.prog L ((laidWorldL L os).forCall (fun _ _ => 0) ⟨#[], args, []⟩).memory := by
  refine laidMetH_of_parts ?_ hh
  generalize hl : (L.filter fun x => x.2.handleName?.isNone) = laid at *
  have e1 : (laid.filter fun x => (laid.map (·.1)).contains x.1) = laid := List.filter_eq_self.2 fun x hx => List.contains_iff_mem.2 (List.mem_map.2 ⟨x, hx, rfl⟩)
  have e2 : (laid.filter fun x => !(laid.map (·.1)).contains x.1) = [] := List.filter_eq_nil_iff.2 fun x hx => by rw [List.contains_iff_mem.2 (List.mem_map.2 ⟨x, hx, rfl⟩)]; simp
  have h : laidMet Tryz.prog laid (laidWorldL L os) := laidMet_layVars (w0 := laidWorld os) (laid.map (·.1)) [] (by rw [e1, laidWorldL, hl]) (by rw [e1]; exact hf) (by rw [e1]; exact hi) (by rw [e2]; exact LaidIn.none)
  exact h.of_heap (by simp [World.memory, World.forCall, Input.heap])
/-- a table that a row lists stands -/
theorem tab_of_laid {L : List (String × DataW Unit)} {name : String} {k : IntKind} {zs : List Int} {g n : Nat} {t e : TypeId} (hfl : (L.filter fun x => x.2.handleName?.isNone).filter (fun x => x.1 == name) = [(name, Lib.tabData k zs)])
    (hg : Tryz.prog.globalNamed name = some g) (hty : (Tryz.prog.globals[g]?).map (·.type) = some t) (ht : Tryz.prog.underlying t = some (.array n e)) (he : Tryz.prog.underlying e = some (.int k)) (hce : Tryz.prog.cellsOf e = 1) (hct : Tryz.prog.cellsOf t = n)
    {W : World} (h : laidMetH Tryz.prog L W) : Lib.TabIs Tryz.prog W name k zs := by
  have h2 := ((laidMetH_iff.1 h).1).filter fun x => x.1 == name
  rw [hfl] at h2
  exact Lib.tabIs_of_head hg hty ht he hce hct h2
end Go.Proofs.YtbimlijhgeajjaaGreatDoor.cardBase

namespace Go.Proofs.YtbimlijhgeajjaaGreatDoor
open Go.RowKit
set_option linter.unusedVariables false
set_option maxRecDepth 100000
theorem sIndexByte_any (l : List UInt8) (c : UInt8) (w : World) (hl : l.length ≤ 9223372036854775807) :
    Calls Tryz.prog 111 #[.string (bs l), .int .u8 (c.toNat : Nat)] w fun e w' => e = .returned (.int .i64 (Lib.indexByte l c)) ∧ w' = w := by
  have hrun : ∀ w, (callFunc 175 #[.string (bs l), .int .u8 (c.toNat : Nat)]).run Tryz.prog w = .ok (.value (.int .i64 (Lib.indexByte l c))) w := by
    intro w
    rw [run_callFunc_extern (e := Extern.BytealgIndexByte.indexByte) Tryz.func175 (by kernel_rfl) (by kernel_rfl) (by kernel_rfl) (by kernel_rfl), Lib.run_indexByteString]
    simp [Result.andThen, bs]
  generalize Lib.indexByte l c = n at *
  go_enter Tryz.func111, Tryz.ntmps111
  go_wp2
  go_ret
  exact ⟨rfl, rfl⟩
end Go.Proofs.YtbimlijhgeajjaaGreatDoor

namespace Go.Proofs.YtbimlijhgeajjaaGreatDoor
open Go.RowKit
set_option linter.unusedVariables false
theorem within_true (n lo hi : Int) (w : World) (h0 : lo ≤ n) (h1 : n ≤ hi) :
    Calls Tryz.prog 38 #[.int .i64 n, .int .i64 lo, .int .i64 hi] w fun e w' => e = .returned (.bool true) ∧ w = w' := by
  have b1 : decide (lo ≤ n) = true := by simpa using h0
  have b2 : decide (n ≤ hi) = true := by simpa using h1
  clear h0 h1
  go_enter Tryz.func38, Tryz.ntmps38
  go_wp2
  go_ret
  exact ⟨rfl, rfl⟩
theorem within_false (n lo hi : Int) (w : World) (h0 : n < lo ∨ hi < n) :
    Calls Tryz.prog 38 #[.int .i64 n, .int .i64 lo, .int .i64 hi] w fun e w' => e = .returned (.bool false) ∧ w = w' := by
  by_cases h : n < lo
  · have b1 : decide (lo ≤ n) = false := by simpa using h
    clear h0 h
    go_enter Tryz.func38, Tryz.ntmps38
    go_wp2
    go_ret
    exact ⟨rfl, rfl⟩
  · have b1 : decide (lo ≤ n) = true := by simp; omega
    have b2 : decide (n ≤ hi) = false := by simp; omega
    clear h0 h
    go_enter Tryz.func38, Tryz.ntmps38
    go_wp2
    go_ret
    exact ⟨rfl, rfl⟩
end Go.Proofs.YtbimlijhgeajjaaGreatDoor

namespace Go.Proofs.YtbimlijhgeajjaaGreatDoor
open Go.RowKit
set_option linter.unusedVariables false
set_option maxRecDepth 100000
/-- a byte that a value may have -/
def vOk (b : UInt8) : Bool := decide (32 ≤ b.toNat) && decide (b.toNat ≤ 126)
def isValue (l : List UInt8) : Bool := l.all vOk && decide (l.length ≤ 255)
theorem all_drop_false (l : List UInt8) (k : Nat) (h : k < l.length) (p : UInt8 → Bool) (hf : p l[k] = false) : l.all p = false := by
  rw [List.all_eq_false]; exact ⟨l[k], List.getElem_mem h, by simp [hf]⟩
theorem value_any (l : List UInt8) (w : World) (hl : l.length ≤ 9223372036854775807) :
    Calls Tryz.prog 71 #[.string (bs l)] w fun e w' => e = .returned (.bool (isValue l)) ∧ w' = w := by
  go_enter Tryz.func71, Tryz.ntmps71
  go_wp2
  go_loopw [6] (fun i wr => ∃ k : Nat, k ≤ l.length ∧ i = .int .i64 k ∧ (∀ j (h : j < l.length), j < k → vOk l[j] = true) ∧ wr = w) (fun i _ => l.length - (intOf i).toNat)
  case atStart => exact ⟨0, by omega, rfl, by intro j _ h; omega, rfl⟩
  case round =>
    obtain ⟨k, hk, rfl, hall, rfl⟩ := hrel
    have Hall := hid hall; clear hall
    by_cases hlt : k < l.length
    · have hx : l[k].toNat < 256 := l[k].toNat_lt
      have hi : (k : Int) < (l.length : Int) := by omega
      by_cases h1 : l[k].toNat < 32
      · have hf := all_drop_false l k hlt vOk (by simp [vOk]; omega)
        have Hf := hid hf; clear hf
        go_wp2
        go_ret
        exact ⟨by rw [isValue, Hf.out]; rfl, rfl⟩
      · by_cases h2 : 126 < l[k].toNat
        · have hf := all_drop_false l k hlt vOk (by simp [vOk]; omega)
          have Hf := hid hf; clear hf
          go_wp2
          go_ret
          exact ⟨by rw [isValue, Hf.out]; rfl, rfl⟩
        · go_wp2
          go_roundw
          case rel => exact ⟨k + 1, by omega, by go_num, by intro j h hj; rcases Nat.lt_succ_iff_lt_or_eq.1 hj with h' | rfl; exact Hall.out j h h'; simp [vOk]; omega, trivial⟩
          case measure => simp [intOf]; omega
    · have ha : l.all vOk = true := by
        rw [List.all_eq_true]; intro x hx
        obtain ⟨j, hj, rfl⟩ := List.getElem_of_mem hx
        exact Hall.out j hj (by omega)
      have Ha := hid ha; clear ha
      obtain rfl : k = l.length := by omega
      go_wp2
      go_ret
      refine ⟨?_, rfl⟩
      rw [isValue, Ha.out]
      simp
      omega
theorem rvalue_any (l : List UInt8) (w : World) (hl : l.length ≤ 9223372036854775807) :
    Calls Tryz.prog 67 #[.string (bs l)] w fun e w' => e = .returned (.bool (isValue l)) ∧ Below w.heap.size w w' := by
  have cv := fun w => conv_sb (P := Tryz.prog) 9 197 5 Tryz.underlying9 Tryz.underlying197 Tryz.underlying5 (bs l) w
  obtain ⟨cp, w1, hrun, hcp, hcell, hb1, hsz1, _⟩ := cv w
  rw [bs_size] at hrun
  clear cv
  have hcell' : ∀ j (h : j < l.length), w1.cell? ⟨w.heap.size, j, none⟩ = some (.int .u8 (l[j].toNat : Nat)) := fun j h => (hcell j (by rw [bs_size]; exact h)).trans rfl
  have Hcell := hid hcell'; clear hcell hcell'
  go_enter Tryz.func67, Tryz.ntmps67
  go_wp2
  go_loopw [8] (fun i wr => ∃ k : Nat, k ≤ l.length ∧ i = .int .i64 k ∧ (∀ j (h : j < l.length), j < k → vOk l[j] = true) ∧ wr = w1) (fun i _ => l.length - (intOf i).toNat)
  case atStart => exact ⟨0, by omega, rfl, by intro j _ h; omega, rfl⟩
  case round =>
    obtain ⟨k, hk, rfl, hall, rfl⟩ := hrel
    have Hall := hid hall; clear hall
    by_cases hlt : k < l.length
    · have hx : l[k].toNat < 256 := l[k].toNat_lt
      have hc := Hcell.out k hlt
      by_cases h1 : l[k].toNat < 32 ∨ 126 < l[k].toNat
      · have hf := all_drop_false l k hlt vOk (by simp [vOk]; omega)
        have Hf := hid hf; clear hf
        have c1 := fun w => hid (within_false (l[k].toNat : Nat) 32 126 w (by omega))
        go_wp2_with (go_at_call 38; refine (c1 _).out.mono ?_; rintro e w2 ⟨rfl, rfl⟩)
        go_ret
        exact ⟨by rw [isValue, Hf.out]; rfl, hb1⟩
      · have c1 := fun w => hid (within_true (l[k].toNat : Nat) 32 126 w (by omega) (by omega))
        go_wp2_with (go_at_call 38; refine (c1 _).out.mono ?_; rintro e w2 ⟨rfl, rfl⟩)
        go_roundw
        case rel => exact ⟨k + 1, by omega, by go_num, by intro j h hj; rcases Nat.lt_succ_iff_lt_or_eq.1 hj with h' | rfl; exact Hall.out j h h'; simp [vOk]; omega, trivial⟩
        case measure => simp [intOf]; omega
    · have ha : l.all vOk = true := by
        rw [List.all_eq_true]; intro x hx
        obtain ⟨j, hj, rfl⟩ := List.getElem_of_mem hx
        exact Hall.out j hj (by omega)
      have Ha := hid ha; clear ha
      obtain rfl : k = l.length := by omega
      go_wp2
      go_ret
      refine ⟨?_, hb1⟩
      rw [isValue, Ha.out]
      simp
      omega
end Go.Proofs.YtbimlijhgeajjaaGreatDoor

namespace Go.Proofs.YtbimlijhgeajjaaGreatDoor
open Go.RowKit
set_option linter.unusedVariables false
set_option maxRecDepth 100000
def great (b : UInt8) : Bool := decide (65 ≤ b.toNat) && decide (b.toNat ≤ 90)
def more (b : UInt8) : Bool := (decide (97 ≤ b.toNat) && decide (b.toNat ≤ 122)) || (decide (48 ≤ b.toNat) && decide (b.toNat ≤ 57)) || decide (0 ≤ Lib.indexByte [46, 45, 43, 64, 95] b)
/-- the byte at place i may stand in a key -/
def kOk (i : Nat) (b : UInt8) : Bool := great b || (decide (0 < i) && more b)
def keyFrom : Nat → List UInt8 → Bool
  | _, [] => true
  | i, b :: l => kOk i b && keyFrom (i + 1) l
def isKey (l : List UInt8) : Bool := keyFrom 0 l && decide (1 ≤ l.length) && decide (l.length ≤ 63)
set_option maxHeartbeats 4000000 in
theorem key_any (l : List UInt8) (w : World) (hl : l.length ≤ 9223372036854775807) :
    Calls Tryz.prog 70 #[.string (bs l)] w fun e w' => e = .returned (.bool (isKey l)) ∧ w' = w := by
  have hs : (⟨#[46, 45, 43, 64, 95]⟩ : ByteArray) = bs [46, 45, 43, 64, 95] := rfl
  go_enter Tryz.func70, Tryz.ntmps70
  go_wp2
  go_loopw [8] (fun i wr => ∃ k : Nat, k ≤ l.length ∧ i = .int .i64 k ∧ keyFrom 0 l = keyFrom k (l.drop k) ∧ wr = w) (fun i _ => l.length - (intOf i).toNat)
  case atStart => exact ⟨0, by omega, rfl, rfl, rfl⟩
  case round =>
    obtain ⟨k, hk, rfl, hall, rfl⟩ := hrel
    by_cases hlt : k < l.length
    · have hx : l[k].toNat < 256 := l[k].toNat_lt
      rw [List.drop_eq_getElem_cons hlt, keyFrom] at hall
      have Hall := hid hall; clear hall
      have hi : (k : Int) < (l.length : Int) := by omega
      have c1 := fun w => hid (sIndexByte_any [46, 45, 43, 64, 95] l[k] w (by simp))
      have gd : great l[k] = (decide (65 ≤ l[k].toNat) && decide (l[k].toNat ≤ 90)) := rfl
      have md : more l[k] = ((decide (97 ≤ l[k].toNat) && decide (l[k].toNat ≤ 122)) || (decide (48 ≤ l[k].toNat) && decide (l[k].toNat ≤ 57)) || decide (0 ≤ Lib.indexByte [46, 45, 43, 64, 95] l[k])) := rfl
      have Gd := hid gd; have Md := hid md; clear gd md
      generalize Lib.indexByte [46, 45, 43, 64, 95] l[k] = ib at *
      by_cases h65 : 65 ≤ l[k].toNat ∧ l[k].toNat ≤ 90
      · have hk1 : kOk k l[k] = true := by rw [kOk, Gd.out]; simp; omega
        rw [hk1] at Hall
        obtain ⟨h65a, h65b⟩ := h65
        go_wp2
        go_roundw
        case rel => exact ⟨k + 1, by omega, by go_num, by rw [Hall.out]; simp, trivial⟩
        case measure => simp [intOf]; omega
      · have hg : great l[k] = false := by rw [Gd.out]; simp; omega
        by_cases h0 : k = 0
        · have hk1 : kOk k l[k] = false := by rw [kOk, hg]; simp [h0]
          rw [hk1] at Hall
          subst h0
          rcases Nat.lt_or_ge (l[0]'hlt).toNat 65 with h | h
          · go_wp2
            go_ret
            exact ⟨by rw [isKey, Hall.out]; simp, rfl⟩
          · have h' : 90 < (l[0]'hlt).toNat := by omega
            have hb : decide (((l[0]'hlt).toNat : Int) ≤ 90) = false := decide_eq_false (by omega)
            have hb2 : ¬ ((l[0]'hlt).toNat : Int) ≤ 90 := by omega
            go_wp2
            go_ret
            exact ⟨by rw [isKey, Hall.out]; simp, rfl⟩
        · have hkI : ((k : Int) == 0) = false := by rw [beq_eq_false_iff_ne]; omega
          have hkO : kOk k l[k] = more l[k] := by rw [kOk, hg]; simp; omega
          rw [hkO] at Hall
          have hgI : (65 : Int) ≤ l[k].toNat → ¬ (l[k].toNat : Int) ≤ 90 := by omega
          by_cases hlow : 97 ≤ l[k].toNat ∧ l[k].toNat ≤ 122
          · have hm : more l[k] = true := by rw [Md.out]; simp; omega
            rw [hm] at Hall
            obtain ⟨u1, u2⟩ := hlow
            have v1 : (65 : Int) ≤ l[k].toNat := by omega
            have v2 : ¬ (l[k].toNat : Int) ≤ 90 := by omega
            go_wp2
            go_roundw
            case rel => exact ⟨k + 1, by omega, by go_num, by rw [Hall.out]; simp, trivial⟩
            case measure => simp [intOf]; omega
          · have hm : more l[k] = ((decide (48 ≤ l[k].toNat) && decide (l[k].toNat ≤ 57)) || decide (0 ≤ ib)) := by
              rw [Md.out]
              have : (decide (97 ≤ l[k].toNat) && decide (l[k].toNat ≤ 122)) = false := by simp; omega
              rw [this]; rfl
            clear Md Gd hgI
            by_cases hdig : 48 ≤ l[k].toNat ∧ l[k].toNat ≤ 57
            · have hm2 : more l[k] = true := by rw [hm]; simp; omega
              rw [hm2] at Hall
              clear hm hm2
              have x1 : ¬ (65 : Int) ≤ l[k].toNat := by omega
              have x2 : (l[k].toNat : Int) ≤ 90 := by omega
              have x3 : ¬ (97 : Int) ≤ l[k].toNat := by omega
              have x4 : (l[k].toNat : Int) ≤ 122 := by omega
              have x5 : (48 : Int) ≤ l[k].toNat := by omega
              have x6 : (l[k].toNat : Int) ≤ 57 := by omega
              clear hlow h65 hdig
              go_wp2
              go_roundw
              case rel => exact ⟨k + 1, by omega, by go_num, by rw [Hall.out]; simp, trivial⟩
              case measure => simp [intOf]; omega
            · have hm2 : more l[k] = decide (0 ≤ ib) := by
                rw [hm]
                have : (decide (48 ≤ l[k].toNat) && decide (l[k].toNat ≤ 57)) = false := by simp; omega
                rw [this]; rfl
              clear hm
              by_cases hib : 0 ≤ ib
              · rw [hm2, decide_eq_true hib] at Hall
                clear hm2
                rcases (show l[k].toNat < 48 ∨ (57 < l[k].toNat ∧ l[k].toNat < 65) ∨ (90 < l[k].toNat ∧ l[k].toNat < 97) ∨ 122 < l[k].toNat by omega) with h | h | h | h
                · have x1 : ¬ (65 : Int) ≤ l[k].toNat := by omega
                  have x2 : (l[k].toNat : Int) ≤ 90 := by omega
                  have x3 : ¬ (97 : Int) ≤ l[k].toNat := by omega
                  have x4 : (l[k].toNat : Int) ≤ 122 := by omega
                  have x5 : ¬ (48 : Int) ≤ l[k].toNat := by omega
                  have x6 : (l[k].toNat : Int) ≤ 57 := by omega
                  clear hlow h65 hdig h
                  go_wp2_with (go_at_call 111; refine (c1 _).out.mono ?_; rintro e w1 ⟨rfl, rfl⟩)
                  go_roundw
                  case rel => exact ⟨k + 1, by omega, by go_num, by rw [Hall.out]; simp, trivial⟩
                  case measure => simp [intOf]; omega
                · have x1 : ¬ (65 : Int) ≤ l[k].toNat := by omega
                  have x2 : (l[k].toNat : Int) ≤ 90 := by omega
                  have x3 : ¬ (97 : Int) ≤ l[k].toNat := by omega
                  have x4 : (l[k].toNat : Int) ≤ 122 := by omega
                  have x5 : (48 : Int) ≤ l[k].toNat := by omega
                  have x6 : ¬ (l[k].toNat : Int) ≤ 57 := by omega
                  clear hlow h65 hdig h
                  go_wp2_with (go_at_call 111; refine (c1 _).out.mono ?_; rintro e w1 ⟨rfl, rfl⟩)
                  go_roundw
                  case rel => exact ⟨k + 1, by omega, by go_num, by rw [Hall.out]; simp, trivial⟩
                  case measure => simp [intOf]; omega
                · have x1 : (65 : Int) ≤ l[k].toNat := by omega
                  have x2 : ¬ (l[k].toNat : Int) ≤ 90 := by omega
                  have x3 : ¬ (97 : Int) ≤ l[k].toNat := by omega
                  have x4 : (l[k].toNat : Int) ≤ 122 := by omega
                  have x5 : (48 : Int) ≤ l[k].toNat := by omega
                  have x6 : ¬ (l[k].toNat : Int) ≤ 57 := by omega
                  clear hlow h65 hdig h
                  go_wp2_with (go_at_call 111; refine (c1 _).out.mono ?_; rintro e w1 ⟨rfl, rfl⟩)
                  go_roundw
                  case rel => exact ⟨k + 1, by omega, by go_num, by rw [Hall.out]; simp, trivial⟩
                  case measure => simp [intOf]; omega
                · have x1 : (65 : Int) ≤ l[k].toNat := by omega
                  have x2 : ¬ (l[k].toNat : Int) ≤ 90 := by omega
                  have x3 : (97 : Int) ≤ l[k].toNat := by omega
                  have x4 : ¬ (l[k].toNat : Int) ≤ 122 := by omega
                  have x5 : (48 : Int) ≤ l[k].toNat := by omega
                  have x6 : ¬ (l[k].toNat : Int) ≤ 57 := by omega
                  clear hlow h65 hdig h
                  go_wp2_with (go_at_call 111; refine (c1 _).out.mono ?_; rintro e w1 ⟨rfl, rfl⟩)
                  go_roundw
                  case rel => exact ⟨k + 1, by omega, by go_num, by rw [Hall.out]; simp, trivial⟩
                  case measure => simp [intOf]; omega
              · have hib' : ib < 0 := by omega
                rw [hm2, decide_eq_false hib] at Hall
                clear hm2
                have hib2 : decide (0 ≤ ib) = false := decide_eq_false hib
                rcases (show l[k].toNat < 48 ∨ (57 < l[k].toNat ∧ l[k].toNat < 65) ∨ (90 < l[k].toNat ∧ l[k].toNat < 97) ∨ 122 < l[k].toNat by omega) with h | h | h | h
                · have x1 : ¬ (65 : Int) ≤ l[k].toNat := by omega
                  have x2 : (l[k].toNat : Int) ≤ 90 := by omega
                  have x3 : ¬ (97 : Int) ≤ l[k].toNat := by omega
                  have x4 : (l[k].toNat : Int) ≤ 122 := by omega
                  have x5 : ¬ (48 : Int) ≤ l[k].toNat := by omega
                  have x6 : (l[k].toNat : Int) ≤ 57 := by omega
                  clear hlow h65 hdig h
                  go_wp2_with (go_at_call 111; refine (c1 _).out.mono ?_; rintro e w1 ⟨rfl, rfl⟩)
                  go_ret
                  exact ⟨by rw [isKey, Hall.out]; simp, rfl⟩
                · have x1 : ¬ (65 : Int) ≤ l[k].toNat := by omega
                  have x2 : (l[k].toNat : Int) ≤ 90 := by omega
                  have x3 : ¬ (97 : Int) ≤ l[k].toNat := by omega
                  have x4 : (l[k].toNat : Int) ≤ 122 := by omega
                  have x5 : (48 : Int) ≤ l[k].toNat := by omega
                  have x6 : ¬ (l[k].toNat : Int) ≤ 57 := by omega
                  clear hlow h65 hdig h
                  go_wp2_with (go_at_call 111; refine (c1 _).out.mono ?_; rintro e w1 ⟨rfl, rfl⟩)
                  go_ret
                  exact ⟨by rw [isKey, Hall.out]; simp, rfl⟩
                · have x1 : (65 : Int) ≤ l[k].toNat := by omega
                  have x2 : ¬ (l[k].toNat : Int) ≤ 90 := by omega
                  have x3 : ¬ (97 : Int) ≤ l[k].toNat := by omega
                  have x4 : (l[k].toNat : Int) ≤ 122 := by omega
                  have x5 : (48 : Int) ≤ l[k].toNat := by omega
                  have x6 : ¬ (l[k].toNat : Int) ≤ 57 := by omega
                  clear hlow h65 hdig h
                  go_wp2_with (go_at_call 111; refine (c1 _).out.mono ?_; rintro e w1 ⟨rfl, rfl⟩)
                  go_ret
                  exact ⟨by rw [isKey, Hall.out]; simp, rfl⟩
                · have x1 : (65 : Int) ≤ l[k].toNat := by omega
                  have x2 : ¬ (l[k].toNat : Int) ≤ 90 := by omega
                  have x3 : (97 : Int) ≤ l[k].toNat := by omega
                  have x4 : ¬ (l[k].toNat : Int) ≤ 122 := by omega
                  have x5 : (48 : Int) ≤ l[k].toNat := by omega
                  have x6 : ¬ (l[k].toNat : Int) ≤ 57 := by omega
                  clear hlow h65 hdig h
                  go_wp2_with (go_at_call 111; refine (c1 _).out.mono ?_; rintro e w1 ⟨rfl, rfl⟩)
                  go_ret
                  exact ⟨by rw [isKey, Hall.out]; simp, rfl⟩
    · obtain rfl : k = l.length := by omega
      rw [List.drop_length] at hall
      have Hall := hid hall; clear hall
      by_cases hn : l = []
      · subst hn
        go_wp2
        go_ret
        exact ⟨rfl, rfl⟩
      · have hp := List.length_pos_iff.2 hn
        have he : l.isEmpty = false := by simpa using hn
        have hk : isKey l = decide (l.length ≤ 63) := by
          rw [isKey, Hall.out, keyFrom]; simp; omega
        have Hk := hid hk; clear hk
        go_wp2
        go_ret
        refine ⟨?_, rfl⟩
        rw [Hk.out]
        simp
        try omega
end Go.Proofs.YtbimlijhgeajjaaGreatDoor
