/- strings.SplitSeq at a separator of one byte: its iterator, by contract. -/
import Derived.Test.YtbimlijhgeajjaaGreatDoorRange
import Derived.Shelf.Abstract
import Derived.Shelf.RegionOpen
import Derived.WalkKit
import Derived.OwnWalkIn
import Derived.TacticsInMore
import Derived.LoopNIn
import Derived.LoopIn
import Derived.Test.YtbimlijhgeajjaaGreatDoorClone
import Derived.Test.YtbimlijhgeajjaaGreatDoorShelfL
set_option linter.unusedSectionVars false
set_option linter.unusedSimpArgs false
set_option linter.unusedVariables false
namespace Go.Proofs.YtbimlijhgeajjaaGreatDoor
open Go.RowKit Go.Shelf
set_option linter.unusedVariables false
set_option maxRecDepth 100000
attribute [local go_sem] Oper.semAt_some
/-- the cells that the iterator reads stand -/
def KpB (b : Nat) (A B : World) : Prop := B.heap[b]? = A.heap[b]? ∧ B.heap[b + 1]? = A.heap[b + 1]? ∧ B.heap[b + 2]? = A.heap[b + 2]?
def cellStr (w : World) (b : Nat) : Nat := match w.cell? ⟨b, 0, none⟩ with | some (.string s) => s.size | _ => 0
def SBox (w : World) (b : Nat) (r : List UInt8) (c : UInt8) : Prop :=
  w.heap[b]? = some (.cells #[.string (bs r)] 9 (0, 0)) ∧ w.heap[b + 1]? = some (.cells #[.string (bs [c])] 9 (0, 0)) ∧ w.heap[b + 2]? = some (.cells #[.int .i64 0] 3 (0, 0))
theorem SBox.kept {w w' : World} {b : Nat} {r : List UInt8} {c : UInt8} (h : SBox w b r c) (hk : KpB b w w') : SBox w' b r c := ⟨hk.1.trans h.1, hk.2.1.trans h.2.1, hk.2.2.trans h.2.2⟩
theorem SBox.below {w w' : World} {b : Nat} {r : List UInt8} {c : UInt8} (h : SBox w b r c) (hb : Below w.heap.size w w') : SBox w' b r c := by
  have lt : ∀ {k o}, w.heap[k]? = some o → k < w.heap.size := fun h => (Array.getElem?_eq_some_iff.1 h).1
  exact ⟨(hb.block _ (lt h.1)).trans h.1, (hb.block _ (lt h.2.1)).trans h.2.1, (hb.block _ (lt h.2.2)).trans h.2.2⟩
theorem SBox.set {w : World} {b : Nat} {r : List UInt8} {c : UInt8} (h : SBox w b r c) (r' : List UInt8) : SBox (w.setCell ⟨b, 0, none⟩ (.string (bs r'))) b r' c := by
  refine ⟨?_, (set_other w b (b + 1) _ (by omega)).trans h.2.1, (set_other w b (b + 2) _ (by omega)).trans h.2.2⟩
  simp [World.setCell, Array.getElem?_modify, h.1]
def RIter (c : UInt8) (l : List UInt8) (b : Nat) (J : List (List UInt8) → World → Prop) (wr : World) : Prop :=
  ∃ (pre : List (List UInt8)) (r : List UInt8), splitL c l = pre ++ splitL c r ∧ r.length ≤ l.length ∧ J pre wr ∧ SBox wr b r c
set_option maxHeartbeats 1000000 in
theorem splitIter (c : UInt8) (l : List UInt8) (hl : l.length ≤ 1099511627776) (n lp b : Nat) (J Jx : List (List UInt8) → World → Prop) (W : World) (hB : SBox W b l c)
    (hJ : ∀ s A u, J s A → J s (A.setCell ⟨b, 0, none⟩ u))
    (hY : ∀ pre x W1, J pre W1 → pre ++ [x] <+: splitL c l → YieldAt Fence.wide (n - 1) Tryz.prog lp #[.string (bs x)] W1 fun e W' => (e = .returned (.bool true) ∧ J (pre ++ [x]) W' ∧ KpB b W1 W') ∨ (e = .returned (.bool false) ∧ Jx (pre ++ [x]) W'))
    (h0 : J [] W) :
    CallsIn Fence.wide n Tryz.prog 176 #[.func (.yield lp) #[] #[], .pointer (some ⟨b + 1, 0, none⟩), .pointer (some ⟨b, 0, none⟩), .pointer (some ⟨b + 2, 0, none⟩)] W fun e W' => (∃ v, e = .returned v) ∧ (J (splitL c l) W' ∨ ∃ pre, Jx pre W') := by
  have c1 := fun r w => hid (sIndex1_any r c w)
  have g1 : W.cell? ⟨b + 1, 0, none⟩ = some (.string (bs [c])) := by rw [cell_of_row _ _ _ _ _ _ hB.2.1]; rfl
  refine callsIn_of_wp Tryz.func176 rfl trivial ?_
  simp only [Tryz.ntmps176, List.size_toArray, List.length_cons, List.length_nil, Nat.reduceAdd, Nat.reduceSub, Array.replicate_succ, Array.replicate_zero, List.push_toArray, List.append_toArray, List.nil_append, List.cons_append]
  gi_wp2
  gi_loopw [7, 8] (fun _ _ wr => RIter c l b J wr) (fun _ _ wr => cellStr wr b)
  case atStart => exact ⟨[], l, by simp, by omega, h0, hB⟩
  case round =>
    obtain ⟨pre, r, heq, hrl, hj, hB⟩ := hrel
    have q0 : wr.cell? ⟨b, 0, none⟩ = some (.string (bs r)) := by rw [cell_of_row _ _ _ _ _ _ hB.1]; rfl
    have q1 : wr.cell? ⟨b + 1, 0, none⟩ = some (.string (bs [c])) := by rw [cell_of_row _ _ _ _ _ _ hB.2.1]; rfl
    have q2 : wr.cell? ⟨b + 2, 0, none⟩ = some (.int .i64 0) := by rw [cell_of_row _ _ _ _ _ _ hB.2.2]; rfl
    have HB := hid hB; clear hB
    have c1 := c1 r
    rcases idx_cases r c with ⟨h1, h2⟩ | ⟨i, h1, hi, h3, h4⟩
    · rw [h1] at c1
      rw [splitL_none c r h2] at heq
      obtain ⟨fn, tmps, assign, body, hy, hR⟩ := hY pre r wr hj (by rw [heq]; exact List.prefix_rfl)
      have Heq := hid heq; clear heq h1 h2 hY
      gi_wp2_with (refine ⟨trivial, (fun h => by cases h), ?_⟩; gi_at_call 127; refine (callsIn_wide.2 (c1 _).out).mono ?_; rintro e w1 ⟨rfl, rfl⟩)
      refine ⟨(fun h => by cases h), hR.mono ?_⟩
      rintro e W' (⟨rfl, hJ', hk⟩ | ⟨rfl, hJx'⟩)
      · gi_wp2
        go_end0
        exact ⟨⟨_, rfl⟩, .inl (by rw [Heq.out]; exact hJ')⟩
      · gi_wp2
        go_end0
        exact ⟨⟨_, rfl⟩, .inr ⟨_, hJx'⟩⟩
    · rw [h1] at c1
      rw [splitL_idx c r i h3 h4] at heq
      obtain ⟨fn, tmps, assign, body, hy, hR⟩ := hY pre (r.take i) wr hj (by rw [heq]; exact ⟨splitL c (r.drop (i + 1)), by simp⟩)
      have Heq := hid heq; clear heq h1 h3 h4 hY
      have s0 : IntKind.i64.wrap ((i : Int) + 0) = (i : Int) := by rw [IntKind.wrap_i64]; omega
      have s1 : IntKind.i64.wrap ((i : Int) + 1) = (i : Int) + 1 := by rw [IntKind.wrap_i64]; omega
      have s2 : (0 : Int) ≤ (i : Int) + 1 := by omega
      have s3 : ((i : Int) + 1).toNat = i + 1 := by omega
      have s4 : (i : Int) + 1 ≤ (r.length : Int) := by omega
      have s5 : (i : Int) ≤ (r.length : Int) := by omega
      gi_wp2_with (refine ⟨trivial, (fun h => by cases h), ?_⟩; gi_at_call 127; refine (callsIn_wide.2 (c1 _).out).mono ?_; rintro e w1 ⟨rfl, rfl⟩)
      refine ⟨(fun h => by cases h), hR.mono ?_⟩
      rintro e W' (⟨rfl, hJ', hk⟩ | ⟨rfl, hJx'⟩)
      · have hB' := HB.out.kept hk
        have p0 : W'.cell? ⟨b, 0, none⟩ = some (.string (bs r)) := by rw [cell_of_row _ _ _ _ _ _ hB'.1]; rfl
        have p1 : W'.cell? ⟨b + 1, 0, none⟩ = some (.string (bs [c])) := by rw [cell_of_row _ _ _ _ _ _ hB'.2.1]; rfl
        have pf : W'.frozen? ⟨b, 0, none⟩ = false := frozen_of_row _ _ _ _ _ hB'.1
        have HB' := hid hB'; clear hB' hk
        gi_wp2
        refine ⟨⟨pre ++ [r.take i], r.drop (i + 1), by rw [Heq.out]; simp, by simp; omega, hJ _ _ _ hJ', HB'.out.set _⟩, ?_⟩
        have e1 : (W'.setCell ⟨b, 0, none⟩ (.string (bs (r.drop (i + 1))))).cell? ⟨b, 0, none⟩ = some (.string (bs (r.drop (i + 1)))) := cell_setCell_self _ _ _ _ p0
        unfold cellStr
        rw [e1, q0]
        simp [bs_size]; omega
      · gi_wp2
        refine bodyPost_ret (results_none rfl _ _ _) rfl ?_
        exact ⟨⟨_, rfl⟩, .inr ⟨_, hJx'⟩⟩
theorem KpB.trans {b : Nat} {A B C : World} (h : KpB b A B) (k : KpB b B C) : KpB b A C := ⟨k.1.trans h.1, k.2.1.trans h.2.1, k.2.2.trans h.2.2⟩
theorem KpB.put (b : Nat) (W : World) (l : Nat) (o : Obj) (h : b + 2 < l) : KpB b W (W.putObj l o) :=
  ⟨World.putObj_heap_other (by omega), World.putObj_heap_other (by omega), World.putObj_heap_other (by omega)⟩
theorem KpB.of_below {b n : Nat} {A B : World} (h : Below n A B) (hb : b + 2 < n) : KpB b A B := ⟨h.block _ (by omega), h.block _ (by omega), h.block _ (by omega)⟩
/-- for x := range strings.SplitSeq(l, c): the statement -/
theorem range_split {n : Nat} {g : Operand} {ps : Array Tmp} {assign body : Code} {Q : Exit → Act → World → Prop} {a : Act} {w : World} (c : UInt8) (l : List UInt8) (hl : l.length ≤ 1099511627776) (b : Nat)
    (hg : a.eval g = .func (.func 176) #[] #[.pointer (some ⟨b + 1, 0, none⟩), .pointer (some ⟨b, 0, none⟩), .pointer (some ⟨b + 2, 0, none⟩)]) (hB : SBox w b l c) (hps : ps.size = 1)
    (I : List (List UInt8) → World → Prop) (Ix : Code → List (List UInt8) → World → Prop) (hI : Stands w.heap.size b I) (hIx : ∀ c, Stands w.heap.size b (Ix c)) (h0 : I [] w) (a₁ : List UInt8 → Act)
    (hassign : ∀ (lp : Nat) (x : List UInt8) (W : World) (K : Act → World → Prop), K (a₁ x) W →
      assign.wpIn (Fence.wide.inRound lp) (n - 1 - 1) Tryz.prog (Exit.then K (fun _ _ _ => False)) { tmps := (ps.zip #[.string (bs x)]).foldl (fun t (p, v) => t.setIfInBounds p v) a.tmps, defers := [] } W)
    (hbody : ∀ (lp : Nat) (pre : List (List UInt8)) (x : List UInt8) (W : World), I pre W → pre ++ [x] <+: splitL c l → body.wpIn (Fence.wide.inRound lp) (n - 1 - 1) Tryz.prog (ownPostK (KpB b) I Ix (pre ++ [x]) W) (a₁ x) W)
    (hdone : ∀ (D : Nat) (W : World), w.heap.size ≤ D → I (splitL c l) W → W.heap[D]? = some (.deferred (some [])) → Q .normal { a with defers := { target := .collected D, args := #[] } :: a.defers } W)
    (hstop : ∀ (D : Nat) (j : Code) (pre : List (List UInt8)) (W : World), w.heap.size ≤ D → Ix j pre W → W.heap[D]? = some (.deferred (some [])) → j.wpIn Fence.wide n Tryz.prog Q { a with defers := { target := .collected D, args := #[] } :: a.defers } W) :
    (Code.rangeFunc g ps assign body).wpIn Fence.wide n Tryz.prog Q a w := by
  have lt : b + 2 < w.heap.size := (Array.getElem?_eq_some_iff.1 hB.2.2).1
  refine range_box (encs := fun x : List UInt8 => #[.string (bs x)]) hg (enters_of Tryz.func176 (by kernel_rfl) rfl) (fun _ => hps.symm) b (by omega) (KpB b) (fun _ _ _ h k => KpB.trans h k) (fun W l o h => KpB.put b W l o (by omega)) (splitL c l)
    (fun lp J Jx W hW hJ _ hY h0 => splitIter c l hl (n - 1) lp b J Jx W (hB.below hW) hJ hY h0) I Ix hI hIx h0 a₁ hassign hbody hdone hstop
def SeqPost (w : World) (l : List UInt8) (c : UInt8) (e : Ending) (w' : World) : Prop :=
  ∃ b, w.heap.size ≤ b ∧ e = .returned (.func (.func 176) #[] #[.pointer (some ⟨b + 1, 0, none⟩), .pointer (some ⟨b, 0, none⟩), .pointer (some ⟨b + 2, 0, none⟩)]) ∧ SBox w' b l c ∧ Below w.heap.size w w'
theorem splitSeq_any (l : List UInt8) (c : UInt8) (w : World) :
    Calls Tryz.prog 145 #[.string (bs l), .string (bs [c]), .int .i64 0] w fun e w' => SeqPost w l c e w' := by
  go_enter Tryz.func145, Tryz.ntmps145
  go_wp2
  go_ret
  refine ⟨w.heap.size, Nat.le_refl _, rfl, ?_, ?_⟩
  · have h0 := heap_alloc_new w (.cells #[.string (bs l)] 9)
    have h1 := heap_alloc_new (w.alloc (.cells #[.string (bs l)] 9)) (.cells #[.string (bs [c])] 9)
    have h2 := heap_alloc_new ((w.alloc (.cells #[.string (bs l)] 9)).alloc (.cells #[.string (bs [c])] 9)) (.cells #[.int .i64 0] 3)
    simp only [World.size_alloc] at h1 h2
    refine ⟨?_, ?_, h2⟩
    · exact (Below.heap_alloc _ _ _ (by simp; omega)).trans ((Below.heap_alloc _ _ _ (by simp)).trans h0)
    · exact (Below.heap_alloc _ _ _ (by simp)).trans h1
  · exact (((Below.refl _ _).alloc (Nat.le_refl _) _).alloc (by simp) _).alloc (by simp; omega) _
theorem sSplitSeq_any (l : List UInt8) (c : UInt8) (w : World) :
    Calls Tryz.prog 112 #[.string (bs l), .string (bs [c])] w fun e w' => SeqPost w l c e w' := by
  have c1 := fun w => hid (splitSeq_any l c w)
  go_enter Tryz.func112, Tryz.ntmps112
  go_wp2_with (go_at_call 145; refine (c1 _).out.mono ?_; rintro e w1 ⟨b, hb, rfl, hB, hbl⟩)
  go_ret
  exact ⟨b, hb, rfl, hB, hbl⟩
end Go.Proofs.YtbimlijhgeajjaaGreatDoor

namespace Go.Proofs.YtbimlijhgeajjaaGreatDoor
open Go Go.RowKit
set_option linter.unusedVariables false
theorem below_put {B : Nat} {a W : World} (h : Below B a W) {l : Nat} (hl : B ≤ l) (o : Obj) : Below B a (W.putObj l o) :=
  h.trans ⟨rfl, rfl, rfl, by simp, fun k hk => World.putObj_heap_other (by omega)⟩
theorem below_set {B : Nat} {a W : World} (h : Below B a W) {p : Addr} (hp : B ≤ p.block) (u : Value) : Below B a (W.setCell p u) :=
  h.trans ⟨rfl, rfl, rfl, by simp [World.setCell], fun k hk => Below.heap_setCell W p u k (by omega)⟩
theorem blk_put {W : World} {g : Nat} {T : TypeId} {cs : Array Value} (h : Blk W g T cs) {l : Nat} {o : Obj} (hl : W.heap[l]? = some o) (ho : o.isCells = false) (o' : Obj) : Blk (W.putObj l o') g T cs := by
  have hne : g ≠ l := by
    rintro rfl
    unfold Blk at h; rw [h] at hl; cases hl; cases ho
  exact (World.putObj_heap_other hne).trans h
theorem owns_put {W : World} {base : Nat} {e : TypeId} {size n : Nat} {v : Value} {xs : List Value} (h : W.ownsRow base e size v n xs) {l : Nat} {o : Obj} (hl : W.heap[l]? = some o) (ho : o.isCells = false) (o' : Obj) : (W.putObj l o').ownsRow base e size v n xs := by
  refine h.kept (grownBy_putObj' W l o') ?_
  rcases h.2 with ⟨rfl, _⟩ | ⟨g, cap, cur, rfl, _, hgb, _⟩
  · exact .inl rfl
  · refine .inr fun e' => ?_
    have : g = l := by simpa [Value.ownBlock] using e'
    subst this; rw [hgb] at hl; cases hl; cases ho
theorem owns_set {W : World} {base : Nat} {e : TypeId} {size n : Nat} {v : Value} {xs : List Value} (h : W.ownsRow base e size v n xs) {p : Addr} (hp : p.block < base) (u : Value) : (W.setCell p u).ownsRow base e size v n xs := by
  refine h.kept (row := some p.block) ⟨rfl, rfl, rfl, by simp [World.setCell], fun k _ hk => Below.heap_setCell W p u k (fun e => hk (by rw [e]))⟩ ?_
  rcases h.2 with ⟨rfl, _⟩ | ⟨g, cap, cur, rfl, hb, hgb, _⟩
  · exact .inl rfl
  · refine .inr fun e' => ?_
    have : g = p.block := by simpa [Value.ownBlock] using e'
    omega
theorem kpB_grown {W W' : World} {b : Nat} {row : Option Nat} (h : W.grownBy W' row) (hlt : b + 2 < W.heap.size) (hr : ∀ k, row = some k → k < b ∨ b + 2 < k) : KpB b W W' :=
  ⟨h.block b (by omega) (by intro e; have := hr b e.symm; omega), h.block (b + 1) (by omega) (by intro e; have := hr _ e.symm; omega), h.block (b + 2) (by omega) (by intro e; have := hr _ e.symm; omega)⟩
theorem kpB_below {W W' : World} {b : Nat} (h : Below W.heap.size W W') (hlt : b + 2 < W.heap.size) : KpB b W W' :=
  ⟨h.block b (by omega), h.block (b + 1) (by omega), h.block (b + 2) (by omega)⟩
theorem kpB_set (W : World) {b : Nat} {p : Addr} (hp : p.block < b ∨ b + 2 < p.block) (u : Value) : KpB b W (W.setCell p u) :=
  ⟨Below.heap_setCell W p u b (by omega), Below.heap_setCell W p u (b + 1) (by omega), Below.heap_setCell W p u (b + 2) (by omega)⟩
theorem kpB_refl (W : World) (b : Nat) : KpB b W W := ⟨rfl, rfl, rfl⟩
theorem others_below {W W' : World} (h : Below W.heap.size W W') : KeepsOthers W W' := ⟨h.size, fun k o hk _ => (h.block k (Array.getElem?_eq_some_iff.1 hk).1).trans hk⟩
theorem others_own {W W' : World} {base : Nat} {e : TypeId} {size n : Nat} {v : Value} {xs : List Value} (h : W.ownsRow base e size v n xs) (hg : W.grownBy W' v.ownBlock) : KeepsOthers W W' :=
  .of_grownBy hg fun j o hj ho => by
    rcases h.2 with ⟨rfl, _⟩ | ⟨g, cap, cur, rfl, _, hgb, _⟩
    · simp [Value.ownBlock] at hj
    · have : g = j := by simpa [Value.ownBlock] using hj
      subst this; rw [hgb] at ho; cases ho; rfl
theorem listIn_append_own {F : Fence} {nn : Nat} {P : Program} {w : World} {ops : Array Oper} {rest : List Oper} {o : Oper} {a : Act} {Q : Exit → Act → World → Prop}
    (hgd : o.guard = none) (s x : Operand) (t : TypeId) (ho : o.op = .call { callee := .builtin .append, args := #[s, x], argTypes := #[t, t] })
    (base : Nat) (e : TypeId) (z : Value) (size bytes : Nat) (ht : P.underlying t = some (.slice e)) (hi : (P.info? e).map (fun i => (i.zero, i.size, i.bytes)) = some (some z, size, bytes))
    (hzs : z.cells.size = size) (hsz : 0 < size)
    (v : Value) (n : Nat) (xs : List Value) (hs : a.eval s = v) (hown : w.ownsRow base e size v n xs)
    (ad : Addr) (m c : Nat) (news : List Value) (hx : a.eval x = .slice (some ad) m c) (hl : news.length = m * size) (hnews : ∀ j u, news[j]? = some u → w.cell? (ad.add j) = some u) (h1 : ∀ u ∈ news, u.oneCell' = true)
    (h63 : n + m ≤ maxLen) (hbytes : (n + m) * bytes ≤ 140737488355328) (hbase : base ≤ w.heap.size)
    (h : ∀ v' w', w'.ownsRow base e size v' (n + m) (xs ++ news) → w.grownBy w' v.ownBlock → (v' = .slice none 0 0 ↔ v = .slice none 0 0 ∧ m = 0) → wpListIn F nn P ops Q rest (a.put o.dst v') w') : wpListIn F nn P ops Q (o :: rest) a w := by
  obtain ⟨i, hi1, hi2, hi3, hi4⟩ := info_parts hi
  exact wpListIn_append_own w hgd s x t ho base e i z size bytes ht hi1 hi2 hi3 hi4 hzs hsz v n xs hs hown ad m c news hx hl hnews h1 h63 hbytes hbase h
theorem owns_drewN {w : World} {base : Nat} {e : TypeId} {size k : Nat} {v : Value} {xs : List Value} (h : w.ownsRow base e size v k xs) (n : Nat) : (w.drewN n).ownsRow base e size v k xs := h
theorem blk_drewN {w : World} {g : Nat} {T : TypeId} {cs : Array Value} (h : Blk w g T cs) (n : Nat) : Blk (w.drewN n) g T cs := h
theorem infoStr0 : (Tryz.prog.info? 9).map (fun i => (i.zero, i.size, i.bytes)) = some (some (.string ⟨#[]⟩), 1, 16) := by kernel_rfl
theorem owns_base {W : World} {base base' : Nat} {e : TypeId} {size : Nat} {v : Value} {k : Nat} {xs : List Value} (h : W.ownsRow base e size v k xs) (hb : base' ≤ base) : W.ownsRow base' e size v k xs := by
  refine ⟨h.1, ?_⟩
  rcases h.2 with hn | ⟨g, cap, cur, hv, hbg, rest⟩
  · exact .inl hn
  · exact .inr ⟨g, cap, cur, hv, Nat.le_trans hb hbg, rest⟩
/-- a block that is not the row's own stands behind an append -/
theorem Blk.grown {w w' : World} {g base : Nat} {T e : TypeId} {size n : Nat} {v : Value} {xs : List Value} {cs : Array Value} (h : Blk w g T cs) (hown : w.ownsRow base e size v n xs) (hg : w.grownBy w' v.ownBlock) (hlt : g < base) : Blk w' g T cs :=
  (hg.block g h.lt (by intro hk; have := (hown.lt g hk.symm).1; omega)).trans h
end Go.Proofs.YtbimlijhgeajjaaGreatDoor

namespace Go.Proofs.YtbimlijhgeajjaaGreatDoor
open Go Go.RowKit Go.Shelf
set_option linter.unusedVariables false
set_option maxRecDepth 100000
attribute [local go_sem] Oper.semAt_some
theorem key_of_pre {pre : List (List UInt8)} {x : List UInt8} (h : pre ++ [x] <+: splitL 124 keyText) : ∃ k, keyRows[pre.length]? = some k ∧ x = k.text ∧ pre = (keyRows.take pre.length).map KR.text := by
  rw [splitKeys] at h
  obtain ⟨t, ht⟩ := h
  have hl : pre.length < keyRows.length := by
    have := congrArg List.length ht
    simp at this; omega
  refine ⟨keyRows[pre.length], by simp [hl], ?_, ?_⟩
  · have := congrArg (·[pre.length]?) ht
    simpa [List.getElem?_append, hl] using this
  · have := congrArg (·.take pre.length) ht
    simpa [List.map_take] using this
def NamesPost (w : World) (e : Ending) (w' : World) : Prop :=
  ∃ v, e = .returned v ∧ w'.ownsRow w.heap.size 9 1 v keyRows.length (keyRows.map fun k => Value.string (bs k.name)) ∧ Below w.heap.size w w'
theorem kt_len : keyText.length ≤ 1099511627776 := by decide
def INames (base b : Nat) (w0 : World) (pre : List (List UInt8)) (W : World) : Prop :=
  ∃ v, Blk W base 23 #[v] ∧ W.ownsRow (b + 3) 9 1 v pre.length ((keyRows.take pre.length).map fun k => Value.string (bs k.name)) ∧ Below base w0 W ∧ b + 2 < W.heap.size
theorem stands_names (base b B : Nat) (w0 : World) (h1 : base < b) (h2 : b + 2 < B) (h3 : base ≤ w0.heap.size) : Stands B b (INames base b w0) := by
  refine ⟨?_, ?_, ?_⟩
  · rintro s A o ⟨v, hv, hr, hb, hs⟩
    exact ⟨v, hv.below ((Below.refl _ _).alloc (Nat.le_refl _) _), hr.alloc o, hb.alloc (Nat.le_trans h3 hb.size) _, by rw [World.size_alloc]; omega⟩
  · rintro s A l o o' ⟨v, hv, hr, hb, hs⟩ hl hl' ho
    exact ⟨v, blk_put hv hl' ho o', owns_put hr hl' ho o', below_put hb (by omega) _, by simpa using hs⟩
  · rintro s A u ⟨v, hv, hr, hb, hs⟩
    exact ⟨v, hv.far (by simp only; omega) u, owns_set hr (by simp only; omega) u, below_set hb (by simp only; omega) u, by simpa [World.setCell] using hs⟩
end Go.Proofs.YtbimlijhgeajjaaGreatDoor

namespace Go.Proofs.YtbimlijhgeajjaaGreatDoor
open Go Go.RowKit
set_option linter.unusedVariables false
set_option maxRecDepth 100000
def KR.cells (k : KR) : List Value := [.string (bs k.name), .int .i64 (dnum k.lk : Int), .int .i64 (dnum k.ll : Int), .int .i64 (dnum k.lh : Int), .string (bs k.dv), .bool (k.no == [78]), .bool (k.lo == [76])]
def allCells : List Value := keyRows.flatMap KR.cells
theorem flat7 (l : List KR) (i : Nat) (k : KR) (h : l[i]? = some k) (j : Nat) (hj : j < 7) : (l.flatMap KR.cells)[i * 7 + j]? = (k.cells)[j]? := by
  induction l generalizing i with
  | nil => simp at h
  | cons x l ih =>
    rw [List.flatMap_cons]
    cases i with
    | zero =>
      simp only [List.getElem?_cons_zero, Option.some.injEq] at h
      subst h
      rw [List.getElem?_append_left (by simp [KR.cells]; omega)]
      simp
    | succ i =>
      rw [List.getElem?_append_right (by simp [KR.cells]; omega), show (i + 1) * 7 + j - (KR.cells x).length = i * 7 + j by simp [KR.cells]; omega]
      exact ih i (by simpa using h)
def KnownPost (w : World) (e : Ending) (w' : World) : Prop :=
  e = .returned (.slice (some ⟨w.heap.size, 0, none⟩) 18 18) ∧ w' = w.alloc (.cells allCells.toArray 125)
set_option maxHeartbeats 4000000 in
theorem known_any (w : World) : Calls Tryz.prog 84 #[] w fun e w' => KnownPost w e w' := by
  go_enter Tryz.func84, Tryz.ntmps84
  go_wp2
  go_ret
  exact ⟨rfl, congrArg (fun c => w.alloc (.cells c _)) (by kernel_rfl)⟩
end Go.Proofs.YtbimlijhgeajjaaGreatDoor
