/- strings.Index, Cut and Split at a separator of one byte. -/
import Derived.Test.YtbimlijhgeajjaaGreatDoorSplitPure
import Derived.Test.YtbimlijhgeajjaaGreatDoorBase
import Derived.Test.YtbimlijhgeajjaaGreatDoorShelfL
import Derived.Deep.QuietTactic
import Derived.BigQuiet
import Derived.RangeFuncNested
import Derived.RangeFuncBound
import Derived.RangeFuncCalls
import Derived.RangeFuncLeaves
set_option linter.unusedSectionVars false
set_option linter.unusedSimpArgs false
set_option linter.unusedVariables false
namespace Go.Proofs.YtbimlijhgeajjaaGreatDoor
open Go.RowKit
set_option linter.unusedVariables false
set_option maxRecDepth 100000
theorem sArr_bs (l : List (List UInt8)) : sArr l = (l.map fun x => Value.string (bs x)).toArray := rfl
theorem sIndex1_any (l : List UInt8) (c : UInt8) (w : World) :
    Calls Tryz.prog 127 #[.string (bs l), .string (bs [c])] w fun e w' => e = .returned (.int .i64 (Lib.indexByte l c)) ∧ w' = w := by
  have := Tryz.strings_Index_one (bs l) c w
  simpa [bs] using this
theorem lIndex1_any (l : List UInt8) (c : UInt8) (w : World) :
    Calls Tryz.prog 163 #[.string (bs l), .string (bs [c])] w fun e w' => e = .returned (.int .i64 (Lib.indexByte l c)) ∧ w' = w := by
  have := Tryz.stringslite_Index_one (bs l) c w
  simpa [bs] using this
theorem sCount1_any (l : List UInt8) (c : UInt8) (w : World) :
    Calls Tryz.prog 162 #[.string (bs l), .string (bs [c])] w fun e w' => e = .returned (.int .i64 (l.count c : Nat)) ∧ w' = w := by
  have := Tryz.strings_Count_one (bs l) c w
  simpa [bs, Lib.countByte] using this
theorem make_strs {P : Program} (t e : TypeId) (ht : P.underlying t = some (.slice e)) (hi : (P.info? e).map (fun i => (i.zero, i.size, i.bytes)) = some (some (.string ⟨#[]⟩), 1, 16)) (n : Nat) (h : n ≤ 17592186044416) (w : World) :
    (Instr.makeSlice t (.int .i64 (n : Int)) (.int .i64 (n : Int))).run P w = .ok (.slice (some ⟨w.heap.size, 0, none⟩) n n) (w.alloc (.cells (sArr (List.replicate n [])) e)) := by
  obtain ⟨i, h1, h2, h3, h4⟩ := info_parts hi
  have := run_make (P := P) w t e i (.string ⟨#[]⟩) ht h1 h2 .i64 .i64 (n : Int) (n : Int) (by omega) (by omega) (by rw [h4]; omega) (by omega)
  rw [this, h3]
  simp [madeCells, sArr, Value.cells, List.map_replicate]
  congr 3
  apply Array.ext
  · simp
  · intro k _ _; simp [Nat.mod_one]
end Go.Proofs.YtbimlijhgeajjaaGreatDoor

namespace Go.Proofs.YtbimlijhgeajjaaGreatDoor
open Go.RowKit
set_option linter.unusedVariables false
set_option maxRecDepth 100000
def CutPost (c : UInt8) (l : List UInt8) (w : World) (e : Ending) (w' : World) : Prop :=
  e = .returned (.tuple #[.string (bs (cutL c l).1), .string (bs (cutL c l).2.1), .bool (cutL c l).2.2]) ∧ ∃ n, w' = w.drewN n
theorem lCut1_any (l : List UInt8) (c : UInt8) (w : World) (hl : l.length ≤ 9223372036854775807) :
    Calls Tryz.prog 197 #[.string (bs l), .string (bs [c])] w fun e w' => CutPost c l w e w' := by
  have c1 := fun w => hid (lIndex1_any l c w)
  rcases idx_cases l c with ⟨h1, h2⟩ | ⟨i, h1, hi, h3, h4⟩
  · rw [h1] at c1
    have hc := hid (cutL_none c l h2)
    clear h1 h2
    go_enter Tryz.func197, Tryz.ntmps197
    go_wp2_with (go_at_call 163; refine (c1 _).out.mono ?_; rintro e w1 ⟨rfl, rfl⟩)
    go_ret3
    refine ⟨?_, 0, rfl⟩
    rw [hc.out]; rfl
  · rw [h1] at c1
    have hc := hid (cutL_idx c l i h3 h4)
    clear h1 h3 h4
    have s1 : IntKind.i64.wrap ((i : Int) + 1) = (i : Int) + 1 := by rw [IntKind.wrap_i64]; omega
    have s2 : (0 : Int) ≤ (i : Int) + 1 := by omega
    have s3 : ((i : Int) + 1).toNat = i + 1 := by omega
    have s4 : (i : Int) + 1 ≤ (l.length : Int) := by omega
    have s5 : (i : Int) ≤ (l.length : Int) := by omega
    go_enter Tryz.func197, Tryz.ntmps197
    go_wp2_with (go_at_call 163; refine (c1 _).out.mono ?_; rintro e w1 ⟨rfl, rfl⟩)
    go_quiet (fail)
    go_wp2
    go_ret3
    refine ⟨?_, _, rfl⟩
    rw [hc.out]
    simp [go_sem]
theorem cut1_any (l : List UInt8) (c : UInt8) (w : World) (hl : l.length ≤ 9223372036854775807) :
    Calls Tryz.prog 168 #[.string (bs l), .string (bs [c])] w fun e w' => CutPost c l w e w' := by
  have c1 := fun w => hid (lCut1_any l c w hl)
  unfold CutPost at c1 ⊢
  generalize cutL c l = r at *
  obtain ⟨r1, r2, r3⟩ := r
  simp only at c1 ⊢
  go_enter Tryz.func168, Tryz.ntmps168
  go_wp2_with (go_at_call 197; refine (c1 _).out.mono ?_; rintro e w1 ⟨rfl, n, rfl⟩)
  go_ret3
  exact ⟨rfl, _, rfl⟩
end Go.Proofs.YtbimlijhgeajjaaGreatDoor

namespace Go.Proofs.YtbimlijhgeajjaaGreatDoor
open Go.RowKit
set_option linter.unusedVariables false
/-! ### one old block is written, all else stands -/
theorem only_refl (w : World) (r : Option Nat) : w.grownBy w r := ⟨rfl, rfl, rfl, Nat.le_refl _, fun _ _ _ => rfl⟩
theorem only_below {a w w' : World} {r : Option Nat} (h : a.grownBy w r) (hb : Below w.heap.size w w') : a.grownBy w' r :=
  ⟨hb.os.trans h.os, hb.tape.trans h.tape, hb.output.trans h.output, Nat.le_trans h.size hb.size, fun k hk hn => (hb.block k (Nat.lt_of_lt_of_le hk h.size)).trans (h.block k hk hn)⟩
theorem only_drewN {a w : World} {r : Option Nat} (h : a.grownBy w r) (n : Nat) : a.grownBy (w.drewN n) r := ⟨h.os, h.tape, h.output, h.size, h.block⟩
theorem only_alloc {a w : World} {r : Option Nat} (h : a.grownBy w r) (o : Obj) : a.grownBy (w.alloc o) r := only_below h ((Below.refl _ _).alloc (Nat.le_refl _) _)
theorem only_set {a w : World} {g : Nat} (h : a.grownBy w (some g)) (i : Nat) (u : Value) : a.grownBy (w.setCell ⟨g, i, none⟩ u) (some g) :=
  ⟨h.os, h.tape, h.output, by simpa [World.setCell] using h.size, fun k hk hn => by
    have hkg : k ≠ g := fun e => hn (by rw [e])
    exact (Below.heap_setCell w ⟨g, i, none⟩ u k hkg).trans (h.block k hk hn)⟩
theorem only_new {a w : World} {g : Nat} (h : a.grownBy w (some g)) {p : Addr} (hp : a.heap.size ≤ p.block) (u : Value) : a.grownBy (w.setCell p u) (some g) :=
  ⟨h.os, h.tape, h.output, by simpa [World.setCell] using h.size, fun k hk hn => (Below.heap_setCell w p u k (by intro e; omega)).trans (h.block k hk hn)⟩
theorem only_trans {a b c : World} {r : Option Nat} (h : a.grownBy b r) (k : b.grownBy c r) : a.grownBy c r :=
  ⟨k.os.trans h.os, k.tape.trans h.tape, k.output.trans h.output, Nat.le_trans h.size k.size, fun i hi hn => (k.block i (Nat.lt_of_lt_of_le hi h.size) hn).trans (h.block i hi hn)⟩
/-- what has been made since, one block of it written: nothing older has turned -/
theorem below_only {B : Nat} {a b c : World} (h : Below B a b) {g : Nat} (k : b.grownBy c (some g)) (hg : B ≤ g) (hB : B ≤ b.heap.size) : Below B a c :=
  h.trans ⟨k.os, k.tape, k.output, k.size, fun i hi => k.block i (by omega) (by intro e; cases e; omega)⟩
theorem below_setc {B : Nat} {a W : World} (h : Below B a W) {g : Nat} (hg : B ≤ g) (i : Nat) (u : Value) : Below B a (W.setCell ⟨g, i, none⟩ u) :=
  h.trans ⟨rfl, rfl, rfl, by simp [World.setCell], fun k hk => Below.heap_setCell W ⟨g, i, none⟩ u k (by simp only; omega)⟩
/-- a block known whole -/
def Blk (w : World) (g : Nat) (T : TypeId) (cs : Array Value) : Prop := w.heap[g]? = some (.cells cs T (0, 0))
theorem Blk.lt {w : World} {g : Nat} {T : TypeId} {cs : Array Value} (h : Blk w g T cs) : g < w.heap.size := by
  rcases Nat.lt_or_ge g w.heap.size with h1 | h1
  · exact h1
  · unfold Blk at h; rw [Array.getElem?_eq_none h1] at h; cases h
theorem Blk.cell {w : World} {g : Nat} {T : TypeId} {cs : Array Value} (h : Blk w g T cs) (i : Nat) : w.cell? ⟨g, i, none⟩ = cs[i]? := cell_of_row w g i cs T (0, 0) h
theorem Blk.free {w : World} {g : Nat} {T : TypeId} {cs : Array Value} (h : Blk w g T cs) (i : Nat) : w.frozen? ⟨g, i, none⟩ = false := frozen_of_row w g i cs T h
theorem Blk.new (w : World) (T : TypeId) (cs : Array Value) : Blk (w.alloc (.cells cs T)) w.heap.size T cs := heap_alloc_new w _
theorem Blk.below {w w' : World} {g : Nat} {T : TypeId} {cs : Array Value} (h : Blk w g T cs) (hb : Below w.heap.size w w') : Blk w' g T cs := (hb.block g h.lt).trans h
theorem Blk.only {w w' : World} {g r : Nat} {T : TypeId} {cs : Array Value} (h : Blk w g T cs) (hb : w.grownBy w' (some r)) (hr : g ≠ r) : Blk w' g T cs := (hb.block g h.lt (by intro e; cases e; exact hr rfl)).trans h
theorem Blk.set {w : World} {g : Nat} {T : TypeId} {cs : Array Value} (h : Blk w g T cs) (i : Nat) (u : Value) : Blk (w.setCell ⟨g, i, none⟩ u) g T (cs.setIfInBounds i u) := by
  unfold Blk at h ⊢
  simp [World.setCell, Array.getElem?_modify, h]
theorem Blk.far {w : World} {g : Nat} {T : TypeId} {cs : Array Value} (h : Blk w g T cs) {p : Addr} (hp : g ≠ p.block) (u : Value) : Blk (w.setCell p u) g T cs := (Below.heap_setCell w p u g hp).trans h
end Go.Proofs.YtbimlijhgeajjaaGreatDoor

namespace Go.Proofs.YtbimlijhgeajjaaGreatDoor
open Go Go.RowKit
set_option linter.unusedVariables false
/-- what an invariant of the loop must stand: new blocks, a turn of the loop's record, a store into the iterator's cell -/
structure Stands (B bx : Nat) {β : Type} (I : β → World → Prop) : Prop where
  alloc : ∀ s A (o : Obj), I s A → I s (A.alloc o)
  put : ∀ s A l (o o' : Obj), I s A → B ≤ l → A.heap[l]? = some o → o.isCells = false → I s (A.putObj l o')
  set : ∀ s A u, I s A → I s (A.setCell ⟨bx, 0, none⟩ u)
theorem set_other (W : World) (bx k : Nat) (u : Value) (h : k ≠ bx) : (W.setCell ⟨bx, 0, none⟩ u).heap[k]? = W.heap[k]? := Below.heap_setCell W ⟨bx, 0, none⟩ u k h
theorem range_box {P : Program} {n : Nat} {α : Type} {g : Operand} {ps : Array Tmp} {assign body : Code} {Q : Exit → Act → World → Prop} {a : Act} {w : World}
    {gf : Nat} {lb : Array Value} (hg : a.eval g = .func (.func gf) #[] lb) (eg : ∀ args w, (callFunc gf args).run P w = .ok (.enter gf args) w)
    {encs : α → Array Value} (hps : ∀ x, (encs x).size = ps.size) (bx : Nat) (hbx : bx < w.heap.size) (Kp : World → World → Prop)
    (hKt : ∀ A B C : World, Kp A B → Kp B C → Kp A C) (hKb : ∀ (W : World) (l : Nat) (o : Obj), w.heap.size ≤ l → Kp W (W.putObj l o)) (xs : List α)
    (hseq : ∀ (l : Nat) (J Jx : List α → World → Prop) (W : World), Below w.heap.size w W → (∀ s A u, J s A → J s (A.setCell ⟨bx, 0, none⟩ u)) → (∀ s A u, Jx s A → Jx s (A.setCell ⟨bx, 0, none⟩ u)) →
      (∀ pre x W1, J pre W1 → pre ++ [x] <+: xs → YieldAt Fence.wide (n - 1 - 1) P l (encs x) W1 fun e W' => (e = .returned (.bool true) ∧ J (pre ++ [x]) W' ∧ Kp W1 W') ∨ (e = .returned (.bool false) ∧ Jx (pre ++ [x]) W')) →
      J [] W → CallsIn Fence.wide (n - 1) P gf (#[.func (.yield l) #[] #[]] ++ lb) W fun e W' => (∃ v, e = .returned v) ∧ (J xs W' ∨ ∃ pre, Jx pre W'))
    (I : List α → World → Prop) (Ix : Code → List α → World → Prop) (hI : Stands w.heap.size bx I) (hIx : ∀ c, Stands w.heap.size bx (Ix c)) (h0 : I [] w) (a₁ : α → Act)
    (hassign : ∀ (l : Nat) (x : α) (W : World) (K : Act → World → Prop), K (a₁ x) W →
      assign.wpIn (Fence.wide.inRound l) (n - 1 - 1) P (Exit.then K (fun _ _ _ => False)) { tmps := (ps.zip (encs x)).foldl (fun t (p, v) => t.setIfInBounds p v) a.tmps, defers := [] } W)
    (hbody : ∀ (l : Nat) (pre : List α) (x : α) (W : World), I pre W → pre ++ [x] <+: xs → body.wpIn (Fence.wide.inRound l) (n - 1 - 1) P (ownPostK Kp I Ix (pre ++ [x]) W) (a₁ x) W)
    (hdone : ∀ (D : Nat) (W : World), w.heap.size ≤ D → I xs W → W.heap[D]? = some (.deferred (some [])) → Q .normal { a with defers := { target := .collected D, args := #[] } :: a.defers } W)
    (hstop : ∀ (D : Nat) (c : Code) (pre : List α) (W : World), w.heap.size ≤ D → Ix c pre W → W.heap[D]? = some (.deferred (some [])) → c.wpIn Fence.wide n P Q { a with defers := { target := .collected D, args := #[] } :: a.defers } W) :
    (Code.rangeFunc g ps assign body).wpIn Fence.wide n P Q a w := by
  refine wpIn_rangeFunc fun fn hfn => ?_
  generalize hL : w.heap.size + 1 = L
  -- the loop's record in a state
  let rec_ : LoopState → Option Code → Obj := fun st pe => .loop { state := st, pending := pe, fn, tmps := a.tmps, params := ps, assign, body, defers := w.heap.size }
  have hA : ∃ W1 : World, W1 = (w.alloc (.deferred (some []))).alloc (rec_ .ready none) := ⟨_, rfl⟩
  obtain ⟨W1, hW1⟩ := hA
  have e1 : W1.heap[L]? = some (rec_ .ready none) := by
    have := World.alloc_heap_new (w.alloc (.deferred (some []))) (rec_ .ready none)
    rw [World.size_alloc, hL] at this; rw [hW1]; exact this
  have e2 : W1.heap[w.heap.size]? = some (.deferred (some [])) := by
    rw [hW1]; exact (Below.heap_alloc _ _ _ (by simp)).trans (World.alloc_heap_new w _)
  have i1 : I [] W1 := by rw [hW1]; exact hI.alloc _ _ _ (hI.alloc _ _ _ h0)
  have b1 : Below w.heap.size w W1 := by rw [hW1]; exact ((Below.refl _ w).alloc (Nat.le_refl _) _).alloc (by simp) _
  refine ⟨L, [{ target := .collected w.heap.size, args := #[] }], W1, { target := .fn (.func gf) lb, args := #[.func (.yield L) #[] #[]] }, W1, gf, #[.func (.yield L) #[] #[]] ++ lb, W1, ?_, ?_, fun _ _ => trivial, ?_, (fun h => by cases h), ?_⟩
  · rw [hW1, ← hL]; exact run_enterLoop_outer _ _ _ _ _
  · simp only [resolve, hg]; simp [go_sem]
  · simp [invoke, go_sem, eg]
  have hLx : L ≠ bx := by omega
  have hDx : w.heap.size ≠ bx := by omega
  have hLD : w.heap.size ≠ L := by omega
  refine (hseq L (fun pre W => I pre W ∧ W.heap[L]? = some (rec_ .ready none) ∧ W.heap[w.heap.size]? = some (.deferred (some [])))
    (fun pre W => ∃ c, Ix c pre W ∧ W.heap[L]? = some (rec_ .done (some c)) ∧ W.heap[w.heap.size]? = some (.deferred (some []))) W1 b1
    (fun s A u h => ⟨hI.set _ _ _ h.1, (set_other A bx L u hLx).trans h.2.1, (set_other A bx _ u hDx).trans h.2.2⟩)
    (fun s A u h => by obtain ⟨c, x1, x2, x3⟩ := h; exact ⟨c, (hIx c).set _ _ _ x1, (set_other A bx L u hLx).trans x2, (set_other A bx _ u hDx).trans x3⟩) ?_ ⟨i1, e1, e2⟩).mono ?_
  · -- one round
    rintro pre x W ⟨hi, hl, hd⟩ hpre
    have hy := run_yield (P := P) (args := encs x) hl (hps x)
    have hlt : L < W.heap.size := (Array.getElem?_eq_some_iff.1 hl).1
    let busy : Obj := rec_ .busy none
    have b2 : (W.putObj L busy).heap[L]? = some busy := World.putObj_heap_same hlt
    have d2 : (W.putObj L busy).heap[w.heap.size]? = some (.deferred (some [])) := (World.putObj_heap_other hLD).trans hd
    have k2 : Kp W (W.putObj L busy) := hKb _ _ _ (by omega)
    refine ⟨fn, _, assign, body, hy, roundIn_of_wpIn hfn (hassign _ x W _ ⟨W.putObj L busy, run_beginRound hl rfl, ?_⟩)⟩
    refine wpIn_mono (hbody L pre x _ (hI.put _ _ _ _ busy hi (by omega) hl rfl) hpre) ?_
    have fin : ∀ (jump : Option Code) (W3 : World), KeepsOthers (W.putObj L busy) W3 →
        ∃ W4, (Instr.endRound L jump).run P W3 = .ok (.bool jump.isNone) W4 ∧ W4 = W3.putObj L (rec_ (if jump.isNone then .ready else .done) jump) ∧ W3.heap[L]? = some busy ∧
          W4.heap[L]? = some (rec_ (if jump.isNone then .ready else .done) jump) ∧ W4.heap[w.heap.size]? = some (.deferred (some [])) := by
      intro jump W3 hk
      have h3 := hk.same _ _ b2 rfl
      exact ⟨_, run_endRound jump h3, rfl, h3, World.putObj_heap_same (Array.getElem?_eq_some_iff.1 h3).1, (World.putObj_heap_other hLD).trans (hk.same _ _ d2 rfl)⟩
    rintro e a3 W3 hp
    cases e with
    | normal =>
      obtain ⟨hk, hkp, hi3⟩ := hp
      obtain ⟨W4, hr, rfl, h3, h4, h5⟩ := fin none W3 hk
      exact ⟨_, _, hr, .inl ⟨rfl, ⟨hI.put _ _ _ _ _ hi3 (by omega) h3 rfl, h4, h5⟩, hKt _ _ _ (hKt _ _ _ k2 hkp) (hKb _ _ _ (by omega))⟩⟩
    | ret =>
      obtain ⟨hk, hi3⟩ := hp
      obtain ⟨W4, hr, rfl, h3, h4, h5⟩ := fin (some .ret) W3 hk
      exact ⟨_, _, hr, .inr ⟨rfl, .ret, (hIx _).put _ _ _ _ _ hi3 (by omega) h3 rfl, h4, h5⟩⟩
    | exit id =>
      obtain ⟨hk, hi3⟩ := hp
      obtain ⟨W4, hr, rfl, h3, h4, h5⟩ := fin (some (.exit id)) W3 hk
      exact ⟨_, _, hr, .inr ⟨rfl, .exit id, (hIx _).put _ _ _ _ _ hi3 (by omega) h3 rfl, h4, h5⟩⟩
    | goto t =>
      obtain ⟨hk, hi3⟩ := hp
      obtain ⟨W4, hr, rfl, h3, h4, h5⟩ := fin (some (.goto t)) W3 hk
      exact ⟨_, _, hr, .inr ⟨rfl, .goto t, (hIx _).put _ _ _ _ _ hi3 (by omega) h3 rfl, h4, h5⟩⟩
    | panic ch => exact hp.elim
    | outgrown => exact hp.elim
  · -- behind the iterator
    rintro e W2 ⟨⟨v, rfl⟩, (⟨hi, hl, hd⟩ | ⟨pre, c, hi, hl, hd⟩)⟩
    · exact ⟨none, _, run_endLoop hl (by simp), hdone _ _ (Nat.le_refl _) (hI.put _ _ _ _ _ hi (by omega) hl rfl) ((World.putObj_heap_other hLD).trans hd)⟩
    · exact ⟨some c, _, run_endLoop hl (by simp), hstop _ c pre _ (Nat.le_refl _) ((hIx c).put _ _ _ _ _ hi (by omega) hl rfl) ((World.putObj_heap_other hLD).trans hd)⟩
end Go.Proofs.YtbimlijhgeajjaaGreatDoor
