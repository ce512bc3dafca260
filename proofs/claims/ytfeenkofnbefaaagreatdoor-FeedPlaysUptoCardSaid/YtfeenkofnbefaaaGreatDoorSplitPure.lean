/- A range over a function whose iterator writes a cell of its own (a captured variable): the statement's law. No program in sight. -/
import Derived.RangeFuncNested
import Derived.RangeFuncBound
import Derived.RangeFuncCalls
import Derived.RangeFuncLeaves
import Derived.Lib.Bytealg
set_option linter.unusedSectionVars false
set_option linter.unusedSimpArgs false
set_option linter.unusedVariables false
namespace Go.Proofs.YtfeenkofnbefaaaGreatDoor
open Go Go.RowKit
set_option linter.unusedVariables false
/-- what an invariant of the loop must stand: new blocks, a turn of the loop's record, a store into the iterator's cell -/
structure Stands (B bx : Nat) {β : Type} (I : β → World → Prop) : Prop where
  alloc : ∀ s A (o : Obj), I s A → I s (A.alloc o)
  put : ∀ s A l (o o' : Obj), I s A → B ≤ l → A.heap[l]? = some o → o.isCells = false → I s (A.putObj l o')
  set : ∀ s A u, I s A → I s (A.setCell ⟨bx, 0, none⟩ u)
theorem set_other (W : World) (bx k : Nat) (u : Value) (h : k ≠ bx) : (W.setCell ⟨bx, 0, none⟩ u).heap[k]? = W.heap[k]? := Below.heap_setCell W ⟨bx, 0, none⟩ u k h
theorem range_box {P : Program} {n : Nat} {α : Type} {g : Operand} {ps : Array Tmp} {assign body : Code} {Q : Exit → Act → World → Prop} {a : Act} {w : World}
    {gf : Nat} {lb : Array Value} (hg : a.eval g = .func (.func gf) #[] lb) (eg : ∀ args w, (callFunc gf args).run P w = .ok (.enter gf args) w)
    {encs : α → Array Value} (hps : ∀ x, (encs x).size = ps.size) (bx : Nat) (hbx : bx < w.heap.size) (Kp : World → World → Prop)
    (hKt : ∀ A B C : World, Kp A B → Kp B C → Kp A C) (hKb : ∀ (W : World) (l : Nat) (o : Obj), w.heap.size ≤ l → Kp W (W.putObj l o)) (xs : List α)
    (hseq : ∀ (l : Nat) (J Jx : List α → World → Prop) (W : World), Below w.heap.size w W → (∀ s A u, J s A → J s (A.setCell ⟨bx, 0, none⟩ u)) → (∀ s A u, Jx s A → Jx s (A.setCell ⟨bx, 0, none⟩ u)) →
      (∀ pre x W1, J pre W1 → pre ++ [x] <+: xs → YieldAt Fence.wide (n - 1 - 1) P l (encs x) W1 fun e W' => (e = .returned (.bool true) ∧ J (pre ++ [x]) W' ∧ Kp W1 W') ∨ (e = .returned (.bool false) ∧ Jx (pre ++ [x]) W')) →
      J [] W → CallsIn Fence.wide (n - 1) P gf (#[.func (.yield l) #[] #[]] ++ lb) W fun e W' => (∃ v, e = .returned v) ∧ (J xs W' ∨ ∃ pre, Jx pre W'))
    (I : List α → World → Prop) (Ix : Code → List α → World → Prop) (hI : Stands w.heap.size bx I) (hIx : ∀ c, Stands w.heap.size bx (Ix c)) (h0 : I [] w) (a₁ : α → Act)
    (hassign : ∀ (l : Nat) (x : α) (W : World) (K : Act → World → Prop), K (a₁ x) W →
      assign.wpIn (Fence.wide.inRound l) (n - 1 - 1) P (Exit.then K (fun _ _ _ => False)) { tmps := (ps.zip (encs x)).foldl (fun t (p, v) => t.setIfInBounds p v) a.tmps, defers := [] } W)
    (hbody : ∀ (l : Nat) (pre : List α) (x : α) (W : World), I pre W → pre ++ [x] <+: xs → body.wpIn (Fence.wide.inRound l) (n - 1 - 1) P (ownPostK Kp I Ix (pre ++ [x]) W) (a₁ x) W)
    (hdone : ∀ (D : Nat) (W : World), w.heap.size ≤ D → I xs W → W.heap[D]? = some (.deferred (some [])) → Q .normal { a with defers := { target := .collected D, args := #[] } :: a.defers } W)
    (hstop : ∀ (D : Nat) (c : Code) (pre : List α) (W : World), w.heap.size ≤ D → Ix c pre W → W.heap[D]? = some (.deferred (some [])) → c.wpIn Fence.wide n P Q { a with defers := { target := .collected D, args := #[] } :: a.defers } W) :
    (Code.rangeFunc g ps assign body).wpIn Fence.wide n P Q a w := by
  refine wpIn_rangeFunc fun fn hfn => ?_
  generalize hL : w.heap.size + 1 = L
  -- the loop's record in a state
  let rec_ : LoopState → Option Code → Obj := fun st pe => .loop { state := st, pending := pe, fn, tmps := a.tmps, params := ps, assign, body, defers := w.heap.size }
  have hA : ∃ W1 : World, W1 = (w.alloc (.deferred (some []))).alloc (rec_ .ready none) := ⟨_, rfl⟩
  obtain ⟨W1, hW1⟩ := hA
  have e1 : W1.heap[L]? = some (rec_ .ready none) := by
    have := World.alloc_heap_new (w.alloc (.deferred (some []))) (rec_ .ready none)
    rw [World.size_alloc, hL] at this; rw [hW1]; exact this
  have e2 : W1.heap[w.heap.size]? = some (.deferred (some [])) := by
    rw [hW1]; exact (Below.heap_alloc _ _ _ (by simp)).trans (World.alloc_heap_new w _)
  have i1 : I [] W1 := by rw [hW1]; exact hI.alloc _ _ _ (hI.alloc _ _ _ h0)
  have b1 : Below w.heap.size w W1 := by rw [hW1]; exact ((Below.refl _ w).alloc (Nat.le_refl _) _).alloc (by simp) _
  refine ⟨L, [{ target := .collected w.heap.size, args := #[] }], W1, { target := .fn (.func gf) lb, args := #[.func (.yield L) #[] #[]] }, W1, gf, #[.func (.yield L) #[] #[]] ++ lb, W1, ?_, ?_, fun _ _ => trivial, ?_, (fun h => by cases h), ?_⟩
  · rw [hW1, ← hL]; exact run_enterLoop_outer _ _ _ _ _
  · simp only [resolve, hg]; simp [go_sem]
  · simp [invoke, go_sem, eg]
  have hLx : L ≠ bx := by omega
  have hDx : w.heap.size ≠ bx := by omega
  have hLD : w.heap.size ≠ L := by omega
  refine (hseq L (fun pre W => I pre W ∧ W.heap[L]? = some (rec_ .ready none) ∧ W.heap[w.heap.size]? = some (.deferred (some [])))
    (fun pre W => ∃ c, Ix c pre W ∧ W.heap[L]? = some (rec_ .done (some c)) ∧ W.heap[w.heap.size]? = some (.deferred (some []))) W1 b1
    (fun s A u h => ⟨hI.set _ _ _ h.1, (set_other A bx L u hLx).trans h.2.1, (set_other A bx _ u hDx).trans h.2.2⟩)
    (fun s A u h => by obtain ⟨c, x1, x2, x3⟩ := h; exact ⟨c, (hIx c).set _ _ _ x1, (set_other A bx L u hLx).trans x2, (set_other A bx _ u hDx).trans x3⟩) ?_ ⟨i1, e1, e2⟩).mono ?_
  · -- one round
    rintro pre x W ⟨hi, hl, hd⟩ hpre
    have hy := run_yield (P := P) (args := encs x) hl (hps x)
    have hlt : L < W.heap.size := (Array.getElem?_eq_some_iff.1 hl).1
    let busy : Obj := rec_ .busy none
    have b2 : (W.putObj L busy).heap[L]? = some busy := World.putObj_heap_same hlt
    have d2 : (W.putObj L busy).heap[w.heap.size]? = some (.deferred (some [])) := (World.putObj_heap_other hLD).trans hd
    have k2 : Kp W (W.putObj L busy) := hKb _ _ _ (by omega)
    refine ⟨fn, _, assign, body, hy, roundIn_of_wpIn hfn (hassign _ x W _ ⟨W.putObj L busy, run_beginRound hl rfl, ?_⟩)⟩
    refine wpIn_mono (hbody L pre x _ (hI.put _ _ _ _ busy hi (by omega) hl rfl) hpre) ?_
    have fin : ∀ (jump : Option Code) (W3 : World), KeepsOthers (W.putObj L busy) W3 →
        ∃ W4, (Instr.endRound L jump).run P W3 = .ok (.bool jump.isNone) W4 ∧ W4 = W3.putObj L (rec_ (if jump.isNone then .ready else .done) jump) ∧ W3.heap[L]? = some busy ∧
          W4.heap[L]? = some (rec_ (if jump.isNone then .ready else .done) jump) ∧ W4.heap[w.heap.size]? = some (.deferred (some [])) := by
      intro jump W3 hk
      have h3 := hk.same _ _ b2 rfl
      exact ⟨_, run_endRound jump h3, rfl, h3, World.putObj_heap_same (Array.getElem?_eq_some_iff.1 h3).1, (World.putObj_heap_other hLD).trans (hk.same _ _ d2 rfl)⟩
    rintro e a3 W3 hp
    cases e with
    | normal =>
      obtain ⟨hk, hkp, hi3⟩ := hp
      obtain ⟨W4, hr, rfl, h3, h4, h5⟩ := fin none W3 hk
      exact ⟨_, _, hr, .inl ⟨rfl, ⟨hI.put _ _ _ _ _ hi3 (by omega) h3 rfl, h4, h5⟩, hKt _ _ _ (hKt _ _ _ k2 hkp) (hKb _ _ _ (by omega))⟩⟩
    | ret =>
      obtain ⟨hk, hi3⟩ := hp
      obtain ⟨W4, hr, rfl, h3, h4, h5⟩ := fin (some .ret) W3 hk
      exact ⟨_, _, hr, .inr ⟨rfl, .ret, (hIx _).put _ _ _ _ _ hi3 (by omega) h3 rfl, h4, h5⟩⟩
    | exit id =>
      obtain ⟨hk, hi3⟩ := hp
      obtain ⟨W4, hr, rfl, h3, h4, h5⟩ := fin (some (.exit id)) W3 hk
      exact ⟨_, _, hr, .inr ⟨rfl, .exit id, (hIx _).put _ _ _ _ _ hi3 (by omega) h3 rfl, h4, h5⟩⟩
    | goto t =>
      obtain ⟨hk, hi3⟩ := hp
      obtain ⟨W4, hr, rfl, h3, h4, h5⟩ := fin (some (.goto t)) W3 hk
      exact ⟨_, _, hr, .inr ⟨rfl, .goto t, (hIx _).put _ _ _ _ _ hi3 (by omega) h3 rfl, h4, h5⟩⟩
    | panic ch => exact hp.elim
    | outgrown => exact hp.elim
  · -- behind the iterator
    rintro e W2 ⟨⟨v, rfl⟩, (⟨hi, hl, hd⟩ | ⟨pre, c, hi, hl, hd⟩)⟩
    · exact ⟨none, _, run_endLoop hl (by simp), hdone _ _ (Nat.le_refl _) (hI.put _ _ _ _ _ hi (by omega) hl rfl) ((World.putObj_heap_other hLD).trans hd)⟩
    · exact ⟨some c, _, run_endLoop hl (by simp), hstop _ c pre _ (Nat.le_refl _) ((hIx c).put _ _ _ _ _ hi (by omega) hl rfl) ((World.putObj_heap_other hLD).trans hd)⟩
end Go.Proofs.YtfeenkofnbefaaaGreatDoor

namespace Go.Proofs.YtfeenkofnbefaaaGreatDoor
open Go
/-- the pieces of a text between bytes -/
def splitL (c : UInt8) : List UInt8 → List (List UInt8)
  | [] => [[]]
  | b :: l => if b = c then [] :: splitL c l else match splitL c l with | [] => [[b]] | p :: ps => (b :: p) :: ps
theorem splitL_ne (c : UInt8) (l : List UInt8) : splitL c l ≠ [] := by
  cases l with
  | nil => simp [splitL]
  | cons b l =>
    rw [splitL]
    split
    · simp
    · split <;> simp
theorem splitL_none (c : UInt8) (l : List UInt8) (h : c ∉ l) : splitL c l = [l] := by
  induction l with
  | nil => rfl
  | cons b l ih =>
    have hb : ¬ b = c := fun e => h (by simp [e])
    have hl : c ∉ l := fun e => h (by simp [e])
    rw [splitL, if_neg hb, ih hl]
theorem splitL_cons (c : UInt8) (p l : List UInt8) (h : c ∉ p) : splitL c (p ++ c :: l) = p :: splitL c l := by
  induction p with
  | nil => simp [splitL]
  | cons b p ih =>
    have hb : ¬ b = c := fun e => h (by simp [e])
    have hl : c ∉ p := fun e => h (by simp [e])
    rw [List.cons_append, splitL, if_neg hb, ih hl]
theorem idx_cases (l : List UInt8) (c : UInt8) : (Lib.indexByte l c = -1 ∧ c ∉ l) ∨ ∃ (i : Nat), Lib.indexByte l c = (i : Int) ∧ i < l.length ∧ l = l.take i ++ c :: l.drop (i + 1) ∧ c ∉ l.take i := by
  induction l with
  | nil => left; exact ⟨rfl, by simp⟩
  | cons b l ih =>
    rw [Lib.indexByte]
    by_cases hb : b = c
    · right
      subst hb
      exact ⟨0, by simp, by simp, by simp, by simp⟩
    · have hb' : (b == c) = false := by simpa using hb
      rcases ih with ⟨h1, h2⟩ | ⟨i, h1, h2, h3, h4⟩
      · left
        rw [hb', h1]
        refine ⟨by simp, ?_⟩
        simp only [List.mem_cons, not_or]
        exact ⟨fun e => hb e.symm, h2⟩
      · right
        rw [hb', h1]
        have hne : ((i : Int) == -1) = false := by rw [beq_eq_false_iff_ne]; omega
        refine ⟨i + 1, by rw [hne]; simp, by simp; omega, ?_, ?_⟩
        · simp only [List.take_succ_cons, List.drop_succ_cons, List.cons_append]; rw [← h3]
        · simp only [List.take_succ_cons, List.mem_cons, not_or]; exact ⟨fun e => hb e.symm, h4⟩
theorem splitL_idx (c : UInt8) (l : List UInt8) (i : Nat) (h3 : l = l.take i ++ c :: l.drop (i + 1)) (h4 : c ∉ l.take i) : splitL c l = l.take i :: splitL c (l.drop (i + 1)) := by
  have := splitL_cons c (l.take i) (l.drop (i + 1)) h4
  rwa [← h3] at this
theorem count_idx (c : UInt8) (l : List UInt8) (i : Nat) (h3 : l = l.take i ++ c :: l.drop (i + 1)) (h4 : c ∉ l.take i) : l.count c = (l.drop (i + 1)).count c + 1 := by
  have h : l.count c = (l.take i ++ c :: l.drop (i + 1)).count c := congrArg _ h3
  rw [h, List.count_append, List.count_eq_zero_of_not_mem h4, List.count_cons_self]; omega
theorem splitL_length (c : UInt8) (l : List UInt8) : (splitL c l).length = l.count c + 1 := by
  induction l with
  | nil => rfl
  | cons b l ih =>
    rw [splitL]
    by_cases hb : b = c
    · subst hb; rw [if_pos rfl, List.length_cons, ih, List.count_cons_self]
    · rw [if_neg hb, List.count_cons_of_ne hb, ← ih]
      have := splitL_ne c l
      split
      · rename_i h; exact absurd h this
      · rename_i h; rw [h]; simp
/-- cut at the first byte c: ahead, behind, whether there is one -/
def cutL (c : UInt8) : List UInt8 → List UInt8 × List UInt8 × Bool
  | [] => ([], [], false)
  | b :: l => if b = c then ([], l, true) else (b :: (cutL c l).1, (cutL c l).2)
theorem cutL_none (c : UInt8) (l : List UInt8) (h : c ∉ l) : cutL c l = (l, [], false) := by
  induction l with
  | nil => rfl
  | cons b l ih =>
    have hb : ¬ b = c := fun e => h (by simp [e])
    rw [cutL, if_neg hb, ih (fun e => h (by simp [e]))]
theorem cutL_cons (c : UInt8) (p l : List UInt8) (h : c ∉ p) : cutL c (p ++ c :: l) = (p, l, true) := by
  induction p with
  | nil => simp [cutL]
  | cons b p ih =>
    have hb : ¬ b = c := fun e => h (by simp [e])
    rw [List.cons_append, cutL, if_neg hb, ih (fun e => h (by simp [e]))]
theorem cutL_idx (c : UInt8) (l : List UInt8) (i : Nat) (h3 : l = l.take i ++ c :: l.drop (i + 1)) (h4 : c ∉ l.take i) : cutL c l = (l.take i, l.drop (i + 1), true) := by
  have := cutL_cons c (l.take i) (l.drop (i + 1)) h4
  rwa [← h3] at this
theorem cutL_split (c : UInt8) (l : List UInt8) : splitL c l = if (cutL c l).2.2 then (cutL c l).1 :: splitL c (cutL c l).2.1 else [l] := by
  rcases idx_cases l c with ⟨_, h⟩ | ⟨i, _, _, h3, h4⟩
  · rw [cutL_none c l h, splitL_none c l h]; rfl
  · rw [cutL_idx c l i h3 h4, splitL_idx c l i h3 h4]; rfl
theorem cutL_length (c : UInt8) (l : List UInt8) : (cutL c l).2.2 = true → (cutL c l).1.length + (cutL c l).2.1.length + 1 = l.length := by
  rcases idx_cases l c with ⟨_, h⟩ | ⟨i, _, hi, h3, h4⟩
  · rw [cutL_none c l h]; intro h; cases h
  · rw [cutL_idx c l i h3 h4]; intro _; simp; omega
/-- cells of texts -/
def sArr (l : List (List UInt8)) : Array Value := (l.map fun x => Value.string ⟨x.toArray⟩).toArray
theorem sArr_size (l : List (List UInt8)) : (sArr l).size = l.length := by simp [sArr]
theorem sArr_get (l : List (List UInt8)) (i : Nat) (h : i < l.length) : (sArr l)[i]? = some (.string ⟨l[i].toArray⟩) := by simp [sArr, h]
theorem sArr_set (ds : List (List UInt8)) (m : Nat) (x : List UInt8) : (sArr (ds ++ List.replicate (m + 1) [])).setIfInBounds ds.length (.string ⟨x.toArray⟩) = sArr ((ds ++ [x]) ++ List.replicate m []) := by
  simp [sArr, List.replicate_succ]
end Go.Proofs.YtfeenkofnbefaaaGreatDoor
