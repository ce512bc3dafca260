/- Two pieces that are alike are alike, by the law's own function. -/
import Derived.Test.YtfeenkofnbefaaaGreatDoorFeedNextR
import Derived.Test.YtfeenkofnbefaaaGreatDoorSame
import Derived.Test.YtfeenkofnbefaaaGreatDoorBlk
import Derived.Deep.SlicePairs
set_option linter.unusedSectionVars false
set_option linter.unusedSimpArgs false
set_option linter.unusedVariables false
namespace Go.Proofs.YtfeenkofnbefaaaGreatDoor
open Go Go.RowKit
set_option linter.unusedVariables false
set_option linter.unusedSectionVars false
set_option linter.unusedSimpArgs false
set_option maxRecDepth 100000
theorem pc_same (op : Int) (now : Bool) (flags : Int) (v1 v2 a1 a2 : Value) (vs : List Nat) (xs : List (Nat × List UInt8)) (d s : List UInt8) (w : World) (hv : vs.length ≤ 1000000) (ha : xs.length ≤ 1000000)
    (h1 : Sl w v1 1 vs.length (u64Cells vs)) (h2 : Sl w v2 1 vs.length (u64Cells vs)) (k1 : Sl w a1 2 xs.length (ahsCells xs)) (k2 : Sl w a2 2 xs.length (ahsCells xs)) :
    Calls Tryz.prog 9 #[pieceV op now flags v1 a1 d s, pieceV op now flags v2 a2 d s] w fun e w' => e = .returned (.bool true) ∧ Below w.heap.size w w' := by
  have H1 := hid h1; have H2 := hid h2; have K1 := hid k1; have K2 := hid k2
  obtain ⟨b1, c1, rfl, _⟩ := h1
  obtain ⟨b2, c2, rfl, _⟩ := h2
  obtain ⟨e1, f1, rfl, _⟩ := k1
  obtain ⟨e2, f2, rfl, _⟩ := k2
  have cs := fun W h1 h2 k1 k2 => hid (same_true op now flags (.slice b1 vs.length c1) (.slice b2 vs.length c2) (.slice e1 xs.length f1) (.slice e2 xs.length f2) vs xs d W hv ha h1 h2 k1 k2)
  unfold pduV at cs
  unfold pieceV
  have hA1 := (Below.refl w.heap.size w).alloc (Nat.le_refl _) (.cells #[.int .i64 op, .bool now, .int .i64 flags, .slice b1 vs.length c1, .slice e1 xs.length f1, .string (bs d), .string (bs s)] 42)
  have hA2 := (Below.refl (w.alloc (.cells #[.int .i64 op, .bool now, .int .i64 flags, .slice b1 vs.length c1, .slice e1 xs.length f1, .string (bs d), .string (bs s)] 42)).heap.size _).alloc (Nat.le_refl _) (.cells #[.int .i64 op, .bool now, .int .i64 flags, .slice b2 vs.length c2, .slice e2 xs.length f2, .string (bs d), .string (bs s)] 42)
  have hA := hA1.trans (hA2.mono hA1.size)
  have HA := hid hA; clear hA hA1 hA2
  go_enter Tryz.func9, Tryz.ntmps9
  go_wp2_with fail
  refine (cs _ ?_ ?_ ?_ ?_).out.mono ?_
  · exact H1.out.below (by omega) HA.out
  · exact H2.out.below (by omega) HA.out
  · exact K1.out.below (by omega) HA.out
  · exact K2.out.below (by omega) HA.out
  rintro e w2 ⟨rfl, hb2⟩
  go_wp2
  go_ret
  exact ⟨rfl, HA.out.trans (hb2.mono HA.out.size)⟩
end Go.Proofs.YtfeenkofnbefaaaGreatDoor

namespace Go.Proofs.YtfeenkofnbefaaaGreatDoor
open Go Go.RowKit
set_option linter.unusedVariables false
set_option linter.unusedSectionVars false
set_option linter.unusedSimpArgs false
set_option maxRecDepth 100000
/-- kind, number, text -/
abbrev A3 := Int × Int × List UInt8
def acCells (x : A3) : List Value := [.int .i64 x.1, .int .i64 x.2.1, .string (bs x.2.2)]
theorem acs_length (L : List A3) : (L.flatMap acCells).length = L.length * 3 := by
  induction L with
  | nil => rfl
  | cons x L ih => rw [List.flatMap_cons, List.length_append, ih]; simp [acCells]; omega
theorem acs_at (L : List A3) (k : Nat) (x : A3) (h : L[k]? = some x) : (L.flatMap acCells)[k * 3]? = some (.int .i64 x.1) ∧ (L.flatMap acCells)[k * 3 + 1]? = some (.int .i64 x.2.1) ∧ (L.flatMap acCells)[k * 3 + 2]? = some (.string (bs x.2.2)) := by
  induction L generalizing k with
  | nil => simp at h
  | cons y L ih =>
    rw [List.flatMap_cons]
    cases k with
    | zero =>
      have : y = x := by simpa using h
      subst this
      simp [acCells]
    | succ k =>
      have := ih k (by simpa using h)
      have e : (acCells y).length = 3 := rfl
      refine ⟨?_, ?_, ?_⟩
      · rw [List.getElem?_append_right (by rw [e]; omega), e, show (k + 1) * 3 - 3 = k * 3 by omega]; exact this.1
      · rw [List.getElem?_append_right (by rw [e]; omega), e, show (k + 1) * 3 + 1 - 3 = k * 3 + 1 by omega]; exact this.2.1
      · rw [List.getElem?_append_right (by rw [e]; omega), e, show (k + 1) * 3 + 2 - 3 = k * 3 + 2 by omega]; exact this.2.2
def AcSl (w : World) (v : Value) (l : List A3) : Prop := ∃ A c, v = .slice A l.length c ∧ (l.length = 0 ∨ ∃ b o, A = some ⟨b, o, none⟩ ∧ ∀ k x, l[k]? = some x → w.cell? ⟨b, o + k * 3, none⟩ = some (.int .i64 x.1) ∧ w.cell? ⟨b, o + k * 3 + 1, none⟩ = some (.int .i64 x.2.1) ∧ w.cell? ⟨b, o + k * 3 + 2, none⟩ = some (.string (bs x.2.2)))
/-- how much there is -/
def totA (l : List A3) : Nat := (l.map fun x => 1 + x.2.2.length).sum
theorem totA_step (l : List A3) (k : Nat) (x : A3) (h : l[k]? = some x) : totA (l.take (k + 1)) = totA (l.take k) + (1 + x.2.2.length) := by
  obtain ⟨h1, h2⟩ := List.getElem?_eq_some_iff.1 h
  rw [List.take_succ_eq_append_getElem h1, h2]
  simp [totA]
theorem totA_le (l : List A3) (k : Nat) : totA (l.take k) ≤ totA l := by
  have e : l = l.take k ++ l.drop k := (List.take_append_drop k l).symm
  have : totA l = totA (l.take k) + totA (l.drop k) := by
    have h2 : totA (l.take k ++ l.drop k) = totA (l.take k) + totA (l.drop k) := by
      unfold totA
      rw [List.map_append, List.sum_append]
    rwa [← e] at h2
  omega
def AcBd (l : List A3) : Prop := totA l ≤ 1048576 ∧ ∀ x ∈ l, (-9223372036854775808 ≤ x.1 ∧ x.1 ≤ 9223372036854775807) ∧ (-9223372036854775808 ≤ x.2.1 ∧ x.2.1 ≤ 9223372036854775807)
theorem bulk_part {H : Type} {d : DataW H} {l : List (DataW H)} (h : d ∈ l) : Rows.uptoBulk d ≤ Rows.uptoBulkAll l := by
  induction l with
  | nil => cases h
  | cons x r ih =>
    simp only [Rows.uptoBulkAll]
    rcases List.mem_cons.1 h with e | e
    · subst e; omega
    · have := ih e; omega
theorem bulk_map {H : Type} (n : Nat) (D : Nat → DataW H) (X : Nat → A3) (h : ∀ i, i < n → 1 + (X i).2.2.length ≤ Rows.uptoBulk (D i)) : totA ((List.range n).map X) ≤ Rows.uptoBulkAll ((List.range n).map D) := by
  have key : ∀ (l : List Nat), (∀ i ∈ l, i < n) → totA (l.map X) ≤ Rows.uptoBulkAll (l.map D) := by
    intro l
    induction l with
    | nil => intro _; simp [totA, Rows.uptoBulkAll]
    | cons i l ih =>
      intro hl
      have h1 := h i (hl i (by simp))
      have h2 := ih fun j hj => hl j (by simp [hj])
      simp only [List.map_cons, totA, List.sum_cons, Rows.uptoBulkAll] at h2 ⊢
      omega
  exact key _ fun i hi => List.mem_range.1 hi
def intB2 : Value → Int | .int _ i => i | _ => 0
def strB3 : Value → List UInt8 | .string s => s.data.toList | _ => []
open Go.ChangeShapes Go.WideShapes in
theorem acts_open {H : Type} {enc : TypeId × Value → H} {W : World} {fuel : Nat} {a0 : Option Addr} {len cap : Nat} {x : DataW H × List MemPlace}
    (h : DataW.trod enc Tryz.prog W 0 (fun _ => true) true fuel 22 (Value.slice a0 len cap).cells.toList = some x) (hb : Rows.uptoBulk x.1 ≤ 1048576) :
    ∃ l, AcSl W (.slice a0 len cap) l ∧ AcBd l := by
  have ce : Tryz.prog.cellsOf 24 = 3 := by kernel_rfl
  have cs : Tryz.prog.cellsOf 9 = 1 := by kernel_rfl
  have ci : Tryz.prog.cellsOf 3 = 1 := by kernel_rfl
  rcases Go.Deep.open_slice Tryz.underlying22 h with ⟨hc, _⟩ | ⟨a, l, c, m, n, D, Pl, hc, _, hl, hm, hmm, hx, hi⟩
  · simp [Value.cells] at hc
    obtain ⟨rfl, rfl, rfl⟩ := hc
    exact ⟨[], ⟨none, 0, rfl, .inl rfl⟩, by simp [totA], by simp⟩
  · simp [Value.cells] at hc
    obtain ⟨rfl, rfl, rfl⟩ := hc
    simp only [if_true] at hmm
    have hi' : ∀ k, k < len → ∃ (p q : Int) (s : ByteArray), W.cell? (a.add (k * 3)) = some (.int .i64 p) ∧ W.cell? (a.add (k * 3 + 1)) = some (.int .i64 q) ∧ W.cell? (a.add (k * 3 + 2)) = some (.string s) ∧ (-9223372036854775808 ≤ p ∧ p ≤ 9223372036854775807) ∧ (-9223372036854775808 ≤ q ∧ q ≤ 9223372036854775807) ∧ 1 + s.data.toList.length ≤ Rows.uptoBulk (D k) := by
      intro k hk
      obtain ⟨cs', h1, h2⟩ := hi k (by omega)
      rw [ce] at h1
      obtain ⟨_, hlen, hcell⟩ := World.cells?_some h1
      obtain ⟨xs, j, hj, hxy, _, hxl, hf⟩ := DataW.trod_struct Tryz.underlying24 h2
      match xs, hxl, cs', hlen with
      | [y0, y1, y2], _, [v0, v1, v2], _ =>
        have g0 := hf 0 _ rfl
        have g1 := hf 1 _ rfl
        have g2 := hf 2 _ rfl
        simp [cs, ci] at g0 g1 g2
        have e0 := hcell 0 (by omega)
        have e1 := hcell 1 (by omega)
        have e2 := hcell 2 (by omega)
        rw [Go.Deep.add_add] at e0 e1 e2
        simp at e0 e1 e2
        obtain ⟨p, q0, _, w0⟩ := DataW.trod_int Tryz.underlying3 g0
        obtain ⟨q, q1, _, w1⟩ := DataW.trod_int Tryz.underlying3 g1
        obtain ⟨s, q2, f2, _⟩ := DataW.trod_string Tryz.underlying9 g2
        simp only [List.cons.injEq, and_true] at q0 q1 q2
        subst q0 q1 q2
        refine ⟨p, q, s, e0, e1, e2, bounds_i64 w0, bounds_i64 w1, ?_⟩
        have hD : D k = .agg [y0.1, y1.1, y2.1] := by simpa using congrArg Prod.fst hxy
        have hy2 : y2.1 = .lit (.string s.data.toList) := congrArg Prod.fst f2
        rw [hD, hy2]
        simp only [Rows.uptoBulk, Rows.uptoBulkAll]
        omega
    let X : Nat → A3 := fun k => (intB2 ((W.cell? (a.add (k * 3))).getD .nilIface), intB2 ((W.cell? (a.add (k * 3 + 1))).getD .nilIface), strB3 ((W.cell? (a.add (k * 3 + 2))).getD .nilIface))
    have hX : ∀ k, k < len → W.cell? (a.add (k * 3)) = some (.int .i64 (X k).1) ∧ W.cell? (a.add (k * 3 + 1)) = some (.int .i64 (X k).2.1) ∧ W.cell? (a.add (k * 3 + 2)) = some (.string (bs (X k).2.2)) ∧ (-9223372036854775808 ≤ (X k).1 ∧ (X k).1 ≤ 9223372036854775807) ∧ (-9223372036854775808 ≤ (X k).2.1 ∧ (X k).2.1 ≤ 9223372036854775807) ∧ 1 + (X k).2.2.length ≤ Rows.uptoBulk (D k) := by
      intro k hk
      obtain ⟨p, q, s, h0, h1, h2, b0, b1, b2⟩ := hi' k hk
      simp only [X, h0, h1, h2, Option.getD_some, intB2, strB3, bs_data]
      exact ⟨trivial, trivial, trivial, b0, b1, b2⟩
    have hsp : len = 0 ∨ a.spot = none := by
      by_cases h0 : len = 0
      · exact .inl h0
      · right
        have := (hX 0 (by omega)).1
        simpa [Addr.add] using World.cell?_spot this
    refine ⟨(List.range len).map X, ⟨some a, cap, by simp, ?_⟩, ?_, ?_⟩
    · rcases hsp with h0 | hsp
      · left; simp [h0]
      · right
        obtain ⟨ab, ao, asp⟩ := a
        have hsp : asp = none := hsp
        subst hsp
        refine ⟨ab, ao, rfl, fun k x hx => ?_⟩
        have hk : k < len := by
          have := (List.getElem?_eq_some_iff.1 hx).1
          simpa using this
        have hxx : X k = x := by
          rw [List.getElem?_map, List.getElem?_range hk] at hx
          simpa using hx
        have q := hX k hk
        rw [hxx] at q
        have ad : ∀ j, (⟨ab, ao, none⟩ : Addr).add j = ⟨ab, ao + j, none⟩ := fun j => by unfold Addr.add; split <;> simp <;> omega
        rw [ad, ad, ad] at q
        exact ⟨q.1, by rw [Nat.add_assoc]; exact q.2.1, by rw [Nat.add_assoc]; exact q.2.2.1⟩
    · have h1 := bulk_map len D X (fun i hi => (hX i hi).2.2.2.2.2)
      rw [hx] at hb
      simp only [Rows.uptoBulk] at hb
      omega
    · intro x hx
      obtain ⟨k, hk, rfl⟩ := List.mem_map.1 hx
      have q := hX k (List.mem_range.1 hk)
      exact ⟨q.2.2.2.1, q.2.2.2.2.1⟩
end Go.Proofs.YtfeenkofnbefaaaGreatDoor
