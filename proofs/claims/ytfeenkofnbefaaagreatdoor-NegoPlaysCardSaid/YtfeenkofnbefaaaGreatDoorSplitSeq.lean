/- strings.SplitSeq at a separator of one byte: its iterator, by contract. -/
import Derived.Test.YtfeenkofnbefaaaGreatDoorRange
import Derived.Shelf.Abstract
import Derived.Shelf.RegionOpen
import Derived.WalkKit
import Derived.OwnWalkIn
import Derived.TacticsInMore
import Derived.LoopNIn
import Derived.LoopIn
set_option linter.unusedSectionVars false
set_option linter.unusedSimpArgs false
set_option linter.unusedVariables false
namespace Go.Proofs.YtfeenkofnbefaaaGreatDoor
open Go.RowKit Go.Shelf
set_option linter.unusedVariables false
set_option maxRecDepth 100000
attribute [local go_sem] Oper.semAt_some
/-- the cells that the iterator reads stand -/
def KpB (b : Nat) (A B : World) : Prop := B.heap[b]? = A.heap[b]? ∧ B.heap[b + 1]? = A.heap[b + 1]? ∧ B.heap[b + 2]? = A.heap[b + 2]?
def cellStr (w : World) (b : Nat) : Nat := match w.cell? ⟨b, 0, none⟩ with | some (.string s) => s.size | _ => 0
def SBox (w : World) (b : Nat) (r : List UInt8) (c : UInt8) : Prop :=
  w.heap[b]? = some (.cells #[.string (bs r)] 9 (0, 0)) ∧ w.heap[b + 1]? = some (.cells #[.string (bs [c])] 9 (0, 0)) ∧ w.heap[b + 2]? = some (.cells #[.int .i64 0] 3 (0, 0))
theorem SBox.kept {w w' : World} {b : Nat} {r : List UInt8} {c : UInt8} (h : SBox w b r c) (hk : KpB b w w') : SBox w' b r c := ⟨hk.1.trans h.1, hk.2.1.trans h.2.1, hk.2.2.trans h.2.2⟩
theorem SBox.below {w w' : World} {b : Nat} {r : List UInt8} {c : UInt8} (h : SBox w b r c) (hb : Below w.heap.size w w') : SBox w' b r c := by
  have lt : ∀ {k o}, w.heap[k]? = some o → k < w.heap.size := fun h => (Array.getElem?_eq_some_iff.1 h).1
  exact ⟨(hb.block _ (lt h.1)).trans h.1, (hb.block _ (lt h.2.1)).trans h.2.1, (hb.block _ (lt h.2.2)).trans h.2.2⟩
theorem SBox.set {w : World} {b : Nat} {r : List UInt8} {c : UInt8} (h : SBox w b r c) (r' : List UInt8) : SBox (w.setCell ⟨b, 0, none⟩ (.string (bs r'))) b r' c := by
  refine ⟨?_, (set_other w b (b + 1) _ (by omega)).trans h.2.1, (set_other w b (b + 2) _ (by omega)).trans h.2.2⟩
  simp [World.setCell, Array.getElem?_modify, h.1]
def RIter (c : UInt8) (l : List UInt8) (b : Nat) (J : List (List UInt8) → World → Prop) (wr : World) : Prop :=
  ∃ (pre : List (List UInt8)) (r : List UInt8), splitL c l = pre ++ splitL c r ∧ r.length ≤ l.length ∧ J pre wr ∧ SBox wr b r c
set_option maxHeartbeats 1000000 in
theorem splitIter (c : UInt8) (l : List UInt8) (hl : l.length ≤ 1099511627776) (n lp b : Nat) (J Jx : List (List UInt8) → World → Prop) (W : World) (hB : SBox W b l c)
    (hJ : ∀ s A u, J s A → J s (A.setCell ⟨b, 0, none⟩ u))
    (hY : ∀ pre x W1, J pre W1 → pre ++ [x] <+: splitL c l → YieldAt Fence.wide (n - 1) Tryz.prog lp #[.string (bs x)] W1 fun e W' => (e = .returned (.bool true) ∧ J (pre ++ [x]) W' ∧ KpB b W1 W') ∨ (e = .returned (.bool false) ∧ Jx (pre ++ [x]) W'))
    (h0 : J [] W) :
    CallsIn Fence.wide n Tryz.prog 170 #[.func (.yield lp) #[] #[], .pointer (some ⟨b + 1, 0, none⟩), .pointer (some ⟨b, 0, none⟩), .pointer (some ⟨b + 2, 0, none⟩)] W fun e W' => (∃ v, e = .returned v) ∧ (J (splitL c l) W' ∨ ∃ pre, Jx pre W') := by
  have c1 := fun r w => hid (sIndex1_any r c w)
  have g1 : W.cell? ⟨b + 1, 0, none⟩ = some (.string (bs [c])) := by rw [cell_of_row _ _ _ _ _ _ hB.2.1]; rfl
  refine callsIn_of_wp Tryz.func170 rfl trivial ?_
  simp only [Tryz.ntmps170, List.size_toArray, List.length_cons, List.length_nil, Nat.reduceAdd, Nat.reduceSub, Array.replicate_succ, Array.replicate_zero, List.push_toArray, List.append_toArray, List.nil_append, List.cons_append]
  gi_wp2
  gi_loopw [7, 8] (fun _ _ wr => RIter c l b J wr) (fun _ _ wr => cellStr wr b)
  case atStart => exact ⟨[], l, by simp, by omega, h0, hB⟩
  case round =>
    obtain ⟨pre, r, heq, hrl, hj, hB⟩ := hrel
    have q0 : wr.cell? ⟨b, 0, none⟩ = some (.string (bs r)) := by rw [cell_of_row _ _ _ _ _ _ hB.1]; rfl
    have q1 : wr.cell? ⟨b + 1, 0, none⟩ = some (.string (bs [c])) := by rw [cell_of_row _ _ _ _ _ _ hB.2.1]; rfl
    have q2 : wr.cell? ⟨b + 2, 0, none⟩ = some (.int .i64 0) := by rw [cell_of_row _ _ _ _ _ _ hB.2.2]; rfl
    have HB := hid hB; clear hB
    have c1 := c1 r
    rcases idx_cases r c with ⟨h1, h2⟩ | ⟨i, h1, hi, h3, h4⟩
    · rw [h1] at c1
      rw [splitL_none c r h2] at heq
      obtain ⟨fn, tmps, assign, body, hy, hR⟩ := hY pre r wr hj (by rw [heq]; exact List.prefix_rfl)
      have Heq := hid heq; clear heq h1 h2 hY
      gi_wp2_with (refine ⟨trivial, (fun h => by cases h), ?_⟩; gi_at_call 129; refine (callsIn_wide.2 (c1 _).out).mono ?_; rintro e w1 ⟨rfl, rfl⟩)
      refine ⟨(fun h => by cases h), hR.mono ?_⟩
      rintro e W' (⟨rfl, hJ', hk⟩ | ⟨rfl, hJx'⟩)
      · gi_wp2
        go_end0
        exact ⟨⟨_, rfl⟩, .inl (by rw [Heq.out]; exact hJ')⟩
      · gi_wp2
        go_end0
        exact ⟨⟨_, rfl⟩, .inr ⟨_, hJx'⟩⟩
    · rw [h1] at c1
      rw [splitL_idx c r i h3 h4] at heq
      obtain ⟨fn, tmps, assign, body, hy, hR⟩ := hY pre (r.take i) wr hj (by rw [heq]; exact ⟨splitL c (r.drop (i + 1)), by simp⟩)
      have Heq := hid heq; clear heq h1 h3 h4 hY
      have s0 : IntKind.i64.wrap ((i : Int) + 0) = (i : Int) := by rw [IntKind.wrap_i64]; omega
      have s1 : IntKind.i64.wrap ((i : Int) + 1) = (i : Int) + 1 := by rw [IntKind.wrap_i64]; omega
      have s2 : (0 : Int) ≤ (i : Int) + 1 := by omega
      have s3 : ((i : Int) + 1).toNat = i + 1 := by omega
      have s4 : (i : Int) + 1 ≤ (r.length : Int) := by omega
      have s5 : (i : Int) ≤ (r.length : Int) := by omega
      gi_wp2_with (refine ⟨trivial, (fun h => by cases h), ?_⟩; gi_at_call 129; refine (callsIn_wide.2 (c1 _).out).mono ?_; rintro e w1 ⟨rfl, rfl⟩)
      refine ⟨(fun h => by cases h), hR.mono ?_⟩
      rintro e W' (⟨rfl, hJ', hk⟩ | ⟨rfl, hJx'⟩)
      · have hB' := HB.out.kept hk
        have p0 : W'.cell? ⟨b, 0, none⟩ = some (.string (bs r)) := by rw [cell_of_row _ _ _ _ _ _ hB'.1]; rfl
        have p1 : W'.cell? ⟨b + 1, 0, none⟩ = some (.string (bs [c])) := by rw [cell_of_row _ _ _ _ _ _ hB'.2.1]; rfl
        have pf : W'.frozen? ⟨b, 0, none⟩ = false := frozen_of_row _ _ _ _ _ hB'.1
        have HB' := hid hB'; clear hB' hk
        gi_wp2
        refine ⟨⟨pre ++ [r.take i], r.drop (i + 1), by rw [Heq.out]; simp, by simp; omega, hJ _ _ _ hJ', HB'.out.set _⟩, ?_⟩
        have e1 : (W'.setCell ⟨b, 0, none⟩ (.string (bs (r.drop (i + 1))))).cell? ⟨b, 0, none⟩ = some (.string (bs (r.drop (i + 1)))) := cell_setCell_self _ _ _ _ p0
        unfold cellStr
        rw [e1, q0]
        simp [bs_size]; omega
      · gi_wp2
        refine bodyPost_ret (results_none rfl _ _ _) rfl ?_
        exact ⟨⟨_, rfl⟩, .inr ⟨_, hJx'⟩⟩
theorem KpB.trans {b : Nat} {A B C : World} (h : KpB b A B) (k : KpB b B C) : KpB b A C := ⟨k.1.trans h.1, k.2.1.trans h.2.1, k.2.2.trans h.2.2⟩
theorem KpB.put (b : Nat) (W : World) (l : Nat) (o : Obj) (h : b + 2 < l) : KpB b W (W.putObj l o) :=
  ⟨World.putObj_heap_other (by omega), World.putObj_heap_other (by omega), World.putObj_heap_other (by omega)⟩
theorem KpB.of_below {b n : Nat} {A B : World} (h : Below n A B) (hb : b + 2 < n) : KpB b A B := ⟨h.block _ (by omega), h.block _ (by omega), h.block _ (by omega)⟩
/-- for x := range strings.SplitSeq(l, c): the statement -/
theorem range_split {n : Nat} {g : Operand} {ps : Array Tmp} {assign body : Code} {Q : Exit → Act → World → Prop} {a : Act} {w : World} (c : UInt8) (l : List UInt8) (hl : l.length ≤ 1099511627776) (b : Nat)
    (hg : a.eval g = .func (.func 170) #[] #[.pointer (some ⟨b + 1, 0, none⟩), .pointer (some ⟨b, 0, none⟩), .pointer (some ⟨b + 2, 0, none⟩)]) (hB : SBox w b l c) (hps : ps.size = 1)
    (I : List (List UInt8) → World → Prop) (Ix : Code → List (List UInt8) → World → Prop) (hI : Stands w.heap.size b I) (hIx : ∀ c, Stands w.heap.size b (Ix c)) (h0 : I [] w) (a₁ : List UInt8 → Act)
    (hassign : ∀ (lp : Nat) (x : List UInt8) (W : World) (K : Act → World → Prop), K (a₁ x) W →
      assign.wpIn (Fence.wide.inRound lp) (n - 1 - 1) Tryz.prog (Exit.then K (fun _ _ _ => False)) { tmps := (ps.zip #[.string (bs x)]).foldl (fun t (p, v) => t.setIfInBounds p v) a.tmps, defers := [] } W)
    (hbody : ∀ (lp : Nat) (pre : List (List UInt8)) (x : List UInt8) (W : World), I pre W → pre ++ [x] <+: splitL c l → body.wpIn (Fence.wide.inRound lp) (n - 1 - 1) Tryz.prog (ownPostK (KpB b) I Ix (pre ++ [x]) W) (a₁ x) W)
    (hdone : ∀ (D : Nat) (W : World), w.heap.size ≤ D → I (splitL c l) W → W.heap[D]? = some (.deferred (some [])) → Q .normal { a with defers := { target := .collected D, args := #[] } :: a.defers } W)
    (hstop : ∀ (D : Nat) (j : Code) (pre : List (List UInt8)) (W : World), w.heap.size ≤ D → Ix j pre W → W.heap[D]? = some (.deferred (some [])) → j.wpIn Fence.wide n Tryz.prog Q { a with defers := { target := .collected D, args := #[] } :: a.defers } W) :
    (Code.rangeFunc g ps assign body).wpIn Fence.wide n Tryz.prog Q a w := by
  have lt : b + 2 < w.heap.size := (Array.getElem?_eq_some_iff.1 hB.2.2).1
  refine range_box (encs := fun x : List UInt8 => #[.string (bs x)]) hg (enters_of Tryz.func170 (by kernel_rfl) rfl) (fun _ => hps.symm) b (by omega) (KpB b) (fun _ _ _ h k => KpB.trans h k) (fun W l o h => KpB.put b W l o (by omega)) (splitL c l)
    (fun lp J Jx W hW hJ _ hY h0 => splitIter c l hl (n - 1) lp b J Jx W (hB.below hW) hJ hY h0) I Ix hI hIx h0 a₁ hassign hbody hdone hstop
def SeqPost (w : World) (l : List UInt8) (c : UInt8) (e : Ending) (w' : World) : Prop :=
  ∃ b, w.heap.size ≤ b ∧ e = .returned (.func (.func 170) #[] #[.pointer (some ⟨b + 1, 0, none⟩), .pointer (some ⟨b, 0, none⟩), .pointer (some ⟨b + 2, 0, none⟩)]) ∧ SBox w' b l c ∧ Below w.heap.size w w'
theorem splitSeq_any (l : List UInt8) (c : UInt8) (w : World) :
    Calls Tryz.prog 131 #[.string (bs l), .string (bs [c]), .int .i64 0] w fun e w' => SeqPost w l c e w' := by
  go_enter Tryz.func131, Tryz.ntmps131
  go_wp2
  go_ret
  refine ⟨w.heap.size, Nat.le_refl _, rfl, ?_, ?_⟩
  · have h0 := heap_alloc_new w (.cells #[.string (bs l)] 9)
    have h1 := heap_alloc_new (w.alloc (.cells #[.string (bs l)] 9)) (.cells #[.string (bs [c])] 9)
    have h2 := heap_alloc_new ((w.alloc (.cells #[.string (bs l)] 9)).alloc (.cells #[.string (bs [c])] 9)) (.cells #[.int .i64 0] 3)
    simp only [World.size_alloc] at h1 h2
    refine ⟨?_, ?_, h2⟩
    · exact (Below.heap_alloc _ _ _ (by simp; omega)).trans ((Below.heap_alloc _ _ _ (by simp)).trans h0)
    · exact (Below.heap_alloc _ _ _ (by simp)).trans h1
  · exact (((Below.refl _ _).alloc (Nat.le_refl _) _).alloc (by simp) _).alloc (by simp; omega) _
theorem sSplitSeq_any (l : List UInt8) (c : UInt8) (w : World) :
    Calls Tryz.prog 102 #[.string (bs l), .string (bs [c])] w fun e w' => SeqPost w l c e w' := by
  have c1 := fun w => hid (splitSeq_any l c w)
  go_enter Tryz.func102, Tryz.ntmps102
  go_wp2_with (go_at_call 131; refine (c1 _).out.mono ?_; rintro e w1 ⟨b, hb, rfl, hB, hbl⟩)
  go_ret
  exact ⟨b, hb, rfl, hB, hbl⟩
end Go.Proofs.YtfeenkofnbefaaaGreatDoor
