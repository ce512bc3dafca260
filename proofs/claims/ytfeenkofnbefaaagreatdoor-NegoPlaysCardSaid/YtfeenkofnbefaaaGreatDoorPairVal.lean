/- api.Tell, plain.Place, and the laws' bare and placed, by contracts: an error is nil, an Errno, or an At. -/
import Derived.Test.YtfeenkofnbefaaaGreatDoorErrB
import Derived.Deep.QuietTactic
import Derived.BigQuiet
import Derived.Test.YtfeenkofnbefaaaGreatDoorRows
import Derived.Test.YtfeenkofnbefaaaGreatDoorCards
import Derived.Test.YtfeenkofnbefaaaGreatDoorTie
import Derived.ProofKit
import Derived.OpenShut
import Derived.ShutString
import Derived.ChangeSame
import Derived.ChangeVars
import Derived.JoinedOf
import Derived.RowKit
import Derived.RowKitTokens
import Derived.LaidLaws
import Derived.LaidHandle
import Derived.Stop.Joined
import Derived.SevenTiedAt
import Derived.LaidSub
import Derived.LaidMore
import Derived.Lay
import Derived.Lib.LaidTab
import Derived.Test.YtfeenkofnbefaaaGreatDoorProg
import Derived.Test.YtfeenkofnbefaaaGreatDoorBase
import Derived.Lib.Bytealg
import Derived.Stop.Asserts
set_option linter.unusedSectionVars false
set_option linter.unusedSimpArgs false
set_option linter.unusedVariables false
namespace Go.Proofs.YtfeenkofnbefaaaGreatDoor
open Go.RowKit Go.Extern.Stop Go.Stop Go.Extern
set_option linter.unusedVariables false
set_option maxRecDepth 100000
/-- errors.errorType holds the handle of the type error -/
def EType (w : World) : Prop := w.cell? ⟨0, 0, none⟩ = some (.iface 283 (.agg #[.pointer (some ⟨13, 27, none⟩)]))
theorem EType.lt {w : World} (h : EType w) : 0 < w.heap.size := by
  unfold EType at h
  rcases Nat.lt_or_ge 0 w.heap.size with h0 | h1
  · exact h0
  · simp [World.cell?, Array.getElem?_eq_none h1] at h
theorem EType.below {w w' : World} (h : EType w) (hb : Below w.heap.size w w') : EType w' := by
  have := hb.cell (p := ⟨0, 0, none⟩) h.lt
  unfold EType; rw [this]; exact h
theorem EType.alloc {w : World} (h : EType w) (o : Obj) : EType (w.alloc o) := h.below ((Below.refl _ _).alloc (Nat.le_refl _) _)
/-- an error value: its number, and its place (-1: none) -/
inductive ErrIs (w : World) : Value → Nat → Int → Prop
  | nil : ErrIs w .nilIface 0 (-1)
  | bare (k : Nat) (h : 0 < k) : ErrIs w (.iface 31 (.int .i64 (k : Int))) k (-1)
  | at_ (k : Nat) (h : 0 < k) (pl : Int) (b : Nat) (h0 : w.cell? ⟨b, 0, none⟩ = some (.int .i64 (k : Int))) (h1 : w.cell? ⟨b, 1, none⟩ = some (.int .i64 pl)) : ErrIs w (.iface 144 (.pointer (some ⟨b, 0, none⟩))) k pl
theorem ErrIs.below {w w' : World} {v : Value} {k : Nat} {pl : Int} (h : ErrIs w v k pl) (hb : Below w.heap.size w w') : ErrIs w' v k pl := by
  cases h with
  | nil => exact .nil
  | bare k h => exact .bare k h
  | at_ k h pl b h0 h1 =>
    have hl : b < w.heap.size := block_lt_of_cell h0
    exact .at_ k h pl b ((hb.cell (p := ⟨b, 0, none⟩) hl).trans h0) ((hb.cell (p := ⟨b, 1, none⟩) hl).trans h1)
theorem ErrIs.errV (w : World) (k : Nat) : ErrIs w (errV 31 k) k (-1) := by
  by_cases h : k = 0
  · subst h; exact .nil
  · rw [errV_pos _ _ (by omega)]; exact .bare k (by omega)
theorem tell_any (v : Value) (k : Nat) (pl : Int) (w : World) (hg : EType w) (hv : ErrIs w v k pl) :
    Calls Tryz.prog 52 #[v] w fun e w' => e = .returned (.int .i64 (k : Int)) ∧ Below w.heap.size w w' := by
  cases hv with
  | nil =>
    go_enter Tryz.func52, Tryz.ntmps52
    go_wp2
    go_ret
    exact ⟨rfl, Below.refl _ _⟩
  | bare k h =>
    have h84 := as_hit (k : Int) ⟨w.heap.size, 0, none⟩ (.int .i64 0) (w.alloc (.cells #[.int .i64 0] 31)) (hg.alloc _) (by simp) (by simp)
    have H84 := hid h84; clear h84 h
    go_enter Tryz.func52, Tryz.ntmps52
    go_wp2_with (go_at_call 85; refine H84.out.mono ?_; rintro e w1 ⟨rfl, hc1, hb1⟩; clear H84)
    go_ret
    exact ⟨rfl, (((Below.refl _ _).alloc (Nat.le_refl _) _).setCell (p := ⟨w.heap.size, 0, none⟩) (Nat.le_refl _) _).trans (hb1.mono (by simp))⟩
  | at_ k h pl b h0 h1 =>
    have hl : b < w.heap.size := block_lt_of_cell h0
    have h84 := as_at (k : Int) pl ⟨b, 0, none⟩ ⟨w.heap.size, 0, none⟩ (.int .i64 0) (w.alloc (.cells #[.int .i64 0] 31)) (hg.alloc _) (by simp) (by simp) rfl (by rw [World.cell?_alloc_lt _ _ _ hl]; exact h0)
    have H84 := hid h84; clear h84 h
    go_enter Tryz.func52, Tryz.ntmps52
    go_wp2_with (go_at_call 85; refine H84.out.mono ?_; rintro e w1 ⟨rfl, hc1, hb1⟩; clear H84)
    go_ret
    exact ⟨rfl, (((Below.refl _ _).alloc (Nat.le_refl _) _).setCell (p := ⟨w.heap.size, 0, none⟩) (Nat.le_refl _) _).trans (hb1.mono (by simp))⟩
theorem ta_errno_at (v : Value) (w : World) : (Instr.typeAssert (.iface 31 v) 27 144 true).run Tryz.prog w = .ok (.tuple #[.pointer none, .bool false]) w := by kernel_rfl
theorem ta_at_at (v : Value) (w : World) : (Instr.typeAssert (.iface 144 v) 27 144 true).run Tryz.prog w = .ok (.tuple #[v, .bool true]) w := by kernel_rfl
theorem place_any (v : Value) (k : Nat) (pl : Int) (w : World) (hg : EType w) (hv : ErrIs w v k pl) :
    Calls Tryz.prog 44 #[v] w fun e w' => e = .returned (.tuple #[.int .i64 (k : Int), .int .i64 pl]) ∧ Below w.heap.size w w' := by
  have ht := tell_any v k pl w hg hv
  have Ht := hid ht; clear ht
  cases hv with
  | nil =>
    go_enter Tryz.func44, Tryz.ntmps44
    go_wp2_with (go_at_call 52; refine Ht.out.mono ?_; rintro e w1 ⟨rfl, hb1⟩; clear Ht)
    refine wp_loop_rounds 1 ?_
    rw [rounds_succ]
    go_wp2
    go_ret2
    exact ⟨rfl, hb1⟩
  | bare k h =>
    have ta2 : ∀ (v : Value) (w : World), (Instr.typeAssert (.iface 31 v) 27 184 true).run Tryz.prog w = .ok (.tuple #[.nilIface, .bool false]) w :=
      fun v w => run_typeAssert_lacksB Tryz.underlying184 (by kernel_rfl) (by kernel_rfl) v _ w
    clear h
    have ta1 := ta_errno_at
    go_enter Tryz.func44, Tryz.ntmps44
    go_wp2_with (go_at_call 52; refine Ht.out.mono ?_; rintro e w1 ⟨rfl, hb1⟩; clear Ht)
    refine wp_loop_rounds 1 ?_
    rw [rounds_succ]
    go_wp2
    go_ret2
    exact ⟨rfl, hb1⟩
  | at_ k h pl b h0 h1 =>
    have hl : b < w.heap.size := block_lt_of_cell h0
    have ta1 := ta_at_at
    go_enter Tryz.func44, Tryz.ntmps44
    go_wp2_with (go_at_call 52; refine Ht.out.mono ?_; rintro e w1 ⟨rfl, hb1⟩; clear Ht)
    have h01 := (hb1.cell (p := ⟨b, 0, none⟩) hl).trans h0
    have h11 := (hb1.cell (p := ⟨b, 1, none⟩) hl).trans h1
    clear h0 h1 h
    refine wp_loop_rounds 1 ?_
    rw [rounds_succ]
    go_wp2
    go_quiet (fail)
    go_wp2
    go_ret2
    exact ⟨rfl, below_drewN hb1 _⟩
theorem bare_ok (v : Value) (k : Nat) (w : World) (hg : EType w) (hv : ErrIs w v k (-1)) :
    Calls Tryz.prog 8 #[v, .int .i64 (k : Int)] w fun e w' => e = .returned (.bool true) ∧ Below w.heap.size w w' := by
  have hp := hid (place_any v k (-1) w hg hv)
  clear hv hg
  go_enter Tryz.func8, Tryz.ntmps8
  go_wp2_with (go_at_call 44; refine hp.out.mono ?_; rintro e w1 ⟨rfl, hb1⟩; clear hp)
  go_ret
  exact ⟨rfl, hb1⟩
theorem placed_ok (v : Value) (k : Nat) (pl : Int) (w : World) (hg : EType w) (hv : ErrIs w v k pl) :
    Calls Tryz.prog 20 #[v, .agg #[.int .i64 (k : Int), .int .i64 pl]] w fun e w' => e = .returned (.bool true) ∧ Below w.heap.size w w' := by
  have hp := fun w' (hb : Below w.heap.size w w') => hid (place_any v k pl w' (hg.below hb) (hv.below hb))
  clear hv hg
  go_enter Tryz.func20, Tryz.ntmps20
  go_wp2_with (go_at_call 44; refine (hp _ ((Below.refl _ _).alloc (Nat.le_refl _) _)).out.mono ?_; rintro e w1 ⟨rfl, hb1⟩; clear hp; have c0 : w1.cell? ⟨w.heap.size, 0, none⟩ = some (.int .i64 (k : Int)) := (hb1.cell (p := ⟨w.heap.size, 0, none⟩) (by simp)).trans (by simp); have c1 : w1.cell? ⟨w.heap.size, 1, none⟩ = some (.int .i64 pl) := (hb1.cell (p := ⟨w.heap.size, 1, none⟩) (by simp)).trans (by simp))
  go_ret
  exact ⟨rfl, ((Below.refl _ _).alloc (Nat.le_refl _) _).trans (hb1.mono (by simp))⟩
end Go.Proofs.YtfeenkofnbefaaaGreatDoor

namespace Go.Proofs.YtfeenkofnbefaaaGreatDoor.cardBase
open Go.ChangeShapes Go.WideShapes Go.RowKit
set_option linter.unusedVariables false
theorem looksOn : true = Tryz.pinned.checked.prog.looks [] := by kernel_rfl
def laid1 : List (String × DataW Unit) := [("errors.errorType", Rows.laid_errors_errorType)]
theorem own : ownKnob Tryz.prog.godebug = none := by kernel_rfl
theorem et : Tryz.prog.globalNamed "errors.errorType" = some 0 := by kernel_rfl
theorem rt : (Tryz.prog.cutTypes.find? (·.1 == "internal/reflectlite.rtype")).map (·.2) = some 283 := by kernel_rfl
theorem oneRow : ((List.range 402).filter fun t => Tryz.prog.rowNamed t [101, 114, 114, 111, 114]) = [27] := by kernel_rfl
theorem size : Tryz.prog.types.size = 402 := by kernel_rfl
theorem etype_of_laid {L : List (String × DataW Unit)} (hmem : ("errors.errorType", Rows.laid_errors_errorType) ∈ L) {W : World} (h : laidMetH Tryz.prog L W) : EType W := by
  have hm : ("errors.errorType", (Rows.laid_errors_errorType : DataW Unit)) ∈ L.filter fun x => x.2.handleName?.isSome := List.mem_filter.2 ⟨hmem, by kernel_rfl⟩
  obtain ⟨name, u, ty, e1, e2, e3, e4, e5⟩ := (laidMetH_iff.1 h).2 _ hm
  have en : name = [101, 114, 114, 111, 114] := (Option.some.inj e1).symm
  subst en
  obtain rfl := Option.some.inj (rt.symm.trans e2)
  have hm : ty ∈ (List.range 402).filter fun t => Tryz.prog.rowNamed t [101, 114, 114, 111, 114] := List.mem_filter.2 ⟨List.mem_range.2 (by rw [← size]; exact e3), e4⟩
  rw [oneRow] at hm
  obtain rfl := List.mem_singleton.1 hm
  have hh : typeHandle Tryz.prog 27 = .pointer (some ⟨13, 27, none⟩) := by kernel_rfl
  rw [hh] at e5
  simpa [EType] using World.var?_cell et e5 0
noncomputable def laidWorld (os : Os) : World :=
  let w0 := World.holding Tryz.prog os ⟨#[], #[], []⟩
  { w0 with heap := w0.heap.modify 0 fun
      | .cells _ t frozen => .cells #[.iface 283 (.agg #[.pointer (some ⟨13, 27, none⟩)])] t frozen
      | o => o }
theorem laidWorld_met (os : Os) (args : Array Value) : laidMetH Tryz.prog laid1 ((laidWorld os).forCall (fun _ _ => 0) ⟨#[], args, []⟩).memory :=
  laidMetH_of_parts (laidMet_nil _ _) (by kernel_rfl)
/-! ### a list that holds data, tables and the handle -/
noncomputable def laidWorldL (L : List (String × DataW Unit)) (os : Os) : World := (laidWorld os).layVars Tryz.prog (L.filter fun x => x.2.handleName?.isNone)
theorem laidWorldL_os (L : List (String × DataW Unit)) (os : Os) : (laidWorldL L os).os = os := World.layVars_os _ _ _
theorem laidWorldL_met (L : List (String × DataW Unit)) (os : Os) (args : Array Value)
    (hf : (laidWorld os).layFits Tryz.prog (L.filter fun x => x.2.handleName?.isNone) [] = true)
    (hi : (laidWorld os).layIfaces Tryz.prog (L.filter fun x => x.2.handleName?.isNone) (laidWorldL L os) = true)
    (hh : (L.filter fun x => x.2.handleName?.isSome).all (handleAtB Tryz.prog ((laidWorldL L os).forCall (fun _ _ => 0) ⟨#[], args, []⟩).memory) = true) :
    laidMetH Tryz.prog L ((laidWorldL L os).forCall (fun _ _ => 0) ⟨#[], args, []⟩).memory := by
  refine laidMetH_of_parts ?_ hh
  generalize hl : (L.filter fun x => x.2.handleName?.isNone) = laid at *
  have e1 : (laid.filter fun x => (laid.map (·.1)).contains x.1) = laid := List.filter_eq_self.2 fun x hx => List.contains_iff_mem.2 (List.mem_map.2 ⟨x, hx, rfl⟩)
  have e2 : (laid.filter fun x => !(laid.map (·.1)).contains x.1) = [] := List.filter_eq_nil_iff.2 fun x hx => by rw [List.contains_iff_mem.2 (List.mem_map.2 ⟨x, hx, rfl⟩)]; simp
  have h : laidMet Tryz.prog laid (laidWorldL L os) := laidMet_layVars (w0 := laidWorld os) (laid.map (·.1)) [] (by rw [e1, laidWorldL, hl]) (by rw [e1]; exact hf) (by rw [e1]; exact hi) (by rw [e2]; exact LaidIn.none)
  exact h.of_heap (by simp [World.memory, World.forCall, Input.heap])
/-- a table that a row lists stands -/
theorem tab_of_laid {L : List (String × DataW Unit)} {name : String} {k : IntKind} {zs : List Int} {g n : Nat} {t e : TypeId} (hfl : (L.filter fun x => x.2.handleName?.isNone).filter (fun x => x.1 == name) = [(name, Lib.tabData k zs)])
    (hg : Tryz.prog.globalNamed name = some g) (hty : (Tryz.prog.globals[g]?).map (·.type) = some t) (ht : Tryz.prog.underlying t = some (.array n e)) (he : Tryz.prog.underlying e = some (.int k)) (hce : Tryz.prog.cellsOf e = 1) (hct : Tryz.prog.cellsOf t = n)
    {W : World} (h : laidMetH Tryz.prog L W) : Lib.TabIs Tryz.prog W name k zs := by
  have h2 := ((laidMetH_iff.1 h).1).filter fun x => x.1 == name
  rw [hfl] at h2
  exact Lib.tabIs_of_head hg hty ht he hce hct h2
end Go.Proofs.YtfeenkofnbefaaaGreatDoor.cardBase

namespace Go.Proofs.YtfeenkofnbefaaaGreatDoor
open Go.RowKit
set_option linter.unusedVariables false
set_option maxRecDepth 100000
theorem sIndexByte_any (l : List UInt8) (c : UInt8) (w : World) (hl : l.length ≤ 9223372036854775807) :
    Calls Tryz.prog 124 #[.string (bs l), .int .u8 (c.toNat : Nat)] w fun e w' => e = .returned (.int .i64 (Lib.indexByte l c)) ∧ w' = w := by
  have hrun : ∀ w, (callFunc 194 #[.string (bs l), .int .u8 (c.toNat : Nat)]).run Tryz.prog w = .ok (.value (.int .i64 (Lib.indexByte l c))) w := by
    intro w
    rw [run_callFunc_extern (e := Extern.BytealgIndexByte.indexByte) Tryz.func194 (by kernel_rfl) (by kernel_rfl) (by kernel_rfl) (by kernel_rfl), Lib.run_indexByteString]
    simp [Result.andThen, bs]
  generalize Lib.indexByte l c = n at *
  go_enter Tryz.func124, Tryz.ntmps124
  go_wp2
  go_ret
  exact ⟨rfl, rfl⟩
end Go.Proofs.YtfeenkofnbefaaaGreatDoor

namespace Go.Proofs.YtfeenkofnbefaaaGreatDoor
open Go.RowKit
set_option linter.unusedVariables false
theorem within_true (n lo hi : Int) (w : World) (h0 : lo ≤ n) (h1 : n ≤ hi) :
    Calls Tryz.prog 57 #[.int .i64 n, .int .i64 lo, .int .i64 hi] w fun e w' => e = .returned (.bool true) ∧ w = w' := by
  have b1 : decide (lo ≤ n) = true := by simpa using h0
  have b2 : decide (n ≤ hi) = true := by simpa using h1
  clear h0 h1
  go_enter Tryz.func57, Tryz.ntmps57
  go_wp2
  go_ret
  exact ⟨rfl, rfl⟩
theorem within_false (n lo hi : Int) (w : World) (h0 : n < lo ∨ hi < n) :
    Calls Tryz.prog 57 #[.int .i64 n, .int .i64 lo, .int .i64 hi] w fun e w' => e = .returned (.bool false) ∧ w = w' := by
  by_cases h : n < lo
  · have b1 : decide (lo ≤ n) = false := by simpa using h
    clear h0 h
    go_enter Tryz.func57, Tryz.ntmps57
    go_wp2
    go_ret
    exact ⟨rfl, rfl⟩
  · have b1 : decide (lo ≤ n) = true := by simp; omega
    have b2 : decide (n ≤ hi) = false := by simp; omega
    clear h0 h
    go_enter Tryz.func57, Tryz.ntmps57
    go_wp2
    go_ret
    exact ⟨rfl, rfl⟩
end Go.Proofs.YtfeenkofnbefaaaGreatDoor

namespace Go.Proofs.YtfeenkofnbefaaaGreatDoor
open Go.RowKit
set_option linter.unusedVariables false
set_option maxRecDepth 100000
/-- a byte that a value may have -/
def vOk (b : UInt8) : Bool := decide (32 ≤ b.toNat) && decide (b.toNat ≤ 126)
def isValue (l : List UInt8) : Bool := l.all vOk && decide (l.length ≤ 255)
theorem all_drop_false (l : List UInt8) (k : Nat) (h : k < l.length) (p : UInt8 → Bool) (hf : p l[k] = false) : l.all p = false := by
  rw [List.all_eq_false]; exact ⟨l[k], List.getElem_mem h, by simp [hf]⟩
theorem value_any (l : List UInt8) (w : World) (hl : l.length ≤ 9223372036854775807) :
    Calls Tryz.prog 87 #[.string (bs l)] w fun e w' => e = .returned (.bool (isValue l)) ∧ w' = w := by
  go_enter Tryz.func87, Tryz.ntmps87
  go_wp2
  go_loopw [6] (fun i wr => ∃ k : Nat, k ≤ l.length ∧ i = .int .i64 k ∧ (∀ j (h : j < l.length), j < k → vOk l[j] = true) ∧ wr = w) (fun i _ => l.length - (intOf i).toNat)
  case atStart => exact ⟨0, by omega, rfl, by intro j _ h; omega, rfl⟩
  case round =>
    obtain ⟨k, hk, rfl, hall, rfl⟩ := hrel
    have Hall := hid hall; clear hall
    by_cases hlt : k < l.length
    · have hx : l[k].toNat < 256 := l[k].toNat_lt
      have hi : (k : Int) < (l.length : Int) := by omega
      by_cases h1 : l[k].toNat < 32
      · have hf := all_drop_false l k hlt vOk (by simp [vOk]; omega)
        have Hf := hid hf; clear hf
        go_wp2
        go_ret
        exact ⟨by rw [isValue, Hf.out]; rfl, rfl⟩
      · by_cases h2 : 126 < l[k].toNat
        · have hf := all_drop_false l k hlt vOk (by simp [vOk]; omega)
          have Hf := hid hf; clear hf
          go_wp2
          go_ret
          exact ⟨by rw [isValue, Hf.out]; rfl, rfl⟩
        · go_wp2
          go_roundw
          case rel => exact ⟨k + 1, by omega, by go_num, by intro j h hj; rcases Nat.lt_succ_iff_lt_or_eq.1 hj with h' | rfl; exact Hall.out j h h'; simp [vOk]; omega, trivial⟩
          case measure => simp [intOf]; omega
    · have ha : l.all vOk = true := by
        rw [List.all_eq_true]; intro x hx
        obtain ⟨j, hj, rfl⟩ := List.getElem_of_mem hx
        exact Hall.out j hj (by omega)
      have Ha := hid ha; clear ha
      obtain rfl : k = l.length := by omega
      go_wp2
      go_ret
      refine ⟨?_, rfl⟩
      rw [isValue, Ha.out]
      simp
      omega
theorem rvalue_any (l : List UInt8) (w : World) (hl : l.length ≤ 9223372036854775807) :
    Calls Tryz.prog 88 #[.string (bs l)] w fun e w' => e = .returned (.bool (isValue l)) ∧ Below w.heap.size w w' := by
  have cv := fun w => conv_sb (P := Tryz.prog) 9 187 5 Tryz.underlying9 Tryz.underlying187 Tryz.underlying5 (bs l) w
  obtain ⟨cp, w1, hrun, hcp, hcell, hb1, hsz1, _⟩ := cv w
  rw [bs_size] at hrun
  clear cv
  have hcell' : ∀ j (h : j < l.length), w1.cell? ⟨w.heap.size, j, none⟩ = some (.int .u8 (l[j].toNat : Nat)) := fun j h => (hcell j (by rw [bs_size]; exact h)).trans rfl
  have Hcell := hid hcell'; clear hcell hcell'
  go_enter Tryz.func88, Tryz.ntmps88
  go_wp2
  go_loopw [8] (fun i wr => ∃ k : Nat, k ≤ l.length ∧ i = .int .i64 k ∧ (∀ j (h : j < l.length), j < k → vOk l[j] = true) ∧ wr = w1) (fun i _ => l.length - (intOf i).toNat)
  case atStart => exact ⟨0, by omega, rfl, by intro j _ h; omega, rfl⟩
  case round =>
    obtain ⟨k, hk, rfl, hall, rfl⟩ := hrel
    have Hall := hid hall; clear hall
    by_cases hlt : k < l.length
    · have hx : l[k].toNat < 256 := l[k].toNat_lt
      have hc := Hcell.out k hlt
      by_cases h1 : l[k].toNat < 32 ∨ 126 < l[k].toNat
      · have hf := all_drop_false l k hlt vOk (by simp [vOk]; omega)
        have Hf := hid hf; clear hf
        have c1 := fun w => hid (within_false (l[k].toNat : Nat) 32 126 w (by omega))
        go_wp2_with (go_at_call 57; refine (c1 _).out.mono ?_; rintro e w2 ⟨rfl, rfl⟩)
        go_ret
        exact ⟨by rw [isValue, Hf.out]; rfl, hb1⟩
      · have c1 := fun w => hid (within_true (l[k].toNat : Nat) 32 126 w (by omega) (by omega))
        go_wp2_with (go_at_call 57; refine (c1 _).out.mono ?_; rintro e w2 ⟨rfl, rfl⟩)
        go_roundw
        case rel => exact ⟨k + 1, by omega, by go_num, by intro j h hj; rcases Nat.lt_succ_iff_lt_or_eq.1 hj with h' | rfl; exact Hall.out j h h'; simp [vOk]; omega, trivial⟩
        case measure => simp [intOf]; omega
    · have ha : l.all vOk = true := by
        rw [List.all_eq_true]; intro x hx
        obtain ⟨j, hj, rfl⟩ := List.getElem_of_mem hx
        exact Hall.out j hj (by omega)
      have Ha := hid ha; clear ha
      obtain rfl : k = l.length := by omega
      go_wp2
      go_ret
      refine ⟨?_, hb1⟩
      rw [isValue, Ha.out]
      simp
      omega
end Go.Proofs.YtfeenkofnbefaaaGreatDoor
