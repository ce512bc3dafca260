/- A user of a name: by the program, and by slices.IndexFunc. -/
import Derived.Test.YtfeenkofnbefaaaGreatDoorSplitPure
import Derived.Test.YtfeenkofnbefaaaGreatDoorPairVal
import Derived.Lib.SmallJoins
import Derived.ChangeSlices
set_option linter.unusedSectionVars false
set_option linter.unusedSimpArgs false
set_option linter.unusedVariables false
namespace Go.Proofs.YtfeenkofnbefaaaGreatDoor
open Go Go.RowKit
set_option linter.unusedVariables false
set_option linter.unusedSectionVars false
set_option linter.unusedSimpArgs false
set_option maxRecDepth 100000
/-- where the first user of a name stands -/
def posU (l : PL) (n : List UInt8) : Nat := l.findIdx fun u => u.1 == n
def NotAhead (l : PL) (n : List UInt8) (k : Nat) : Prop := ∀ j, j < k → (l.getD j ([], [])).1 ≠ n
theorem posU_at (l : PL) (n : List UInt8) (k : Nat) (hk : k < l.length) (h : (l.getD k ([], [])).1 = n) (ha : NotAhead l n k) : posU l n = k := by
  unfold posU
  rw [List.findIdx_eq hk]
  refine ⟨?_, fun j hj => ?_⟩
  · rw [← h]; simp [List.getD, List.getElem?_eq_getElem hk]
  · have := ha j hj
    simp only [List.getD, List.getElem?_eq_getElem (show j < l.length by omega), Option.getD_some] at this
    exact beq_eq_false_iff_ne.2 this
theorem posU_none (l : PL) (n : List UInt8) (ha : NotAhead l n l.length) : posU l n = l.length := by
  unfold posU
  rw [List.findIdx_eq_length]
  intro x hx
  obtain ⟨j, hj, rfl⟩ := List.getElem_of_mem hx
  have := ha j hj
  simp only [List.getD, List.getElem?_eq_getElem hj, Option.getD_some] at this
  exact beq_eq_false_iff_ne.2 this
theorem NotAhead.step {l : PL} {n : List UInt8} {k : Nat} (h : NotAhead l n k) (hk : (l.getD k ([], [])).1 ≠ n) : NotAhead l n (k + 1) := fun j hj => by
  rcases Nat.lt_or_ge j k with h' | h'
  · exact h j h'
  · obtain rfl : j = k := by omega
    exact hk
theorem notAhead_zero (l : PL) (n : List UInt8) : NotAhead l n 0 := fun j hj => absurd hj (by omega)
def userV (u : List UInt8 × List UInt8) : Value := .agg #[.string (bs u.1), .string (bs u.2)]
def RUsr (l : PL) (n : List UInt8) (W : World) (i : Value) (wr : World) : Prop :=
  ∃ k : Nat, k ≤ l.length ∧ i = .int .i64 (k : Nat) ∧ Hid (NotAhead l n k) ∧ Below W.heap.size W wr
/-- the program's answer -/
def foundU (l : PL) (n : List UInt8) : Value := if posU l n < l.length then .tuple #[userV (l.getD (posU l n) ([], [])), .bool true] else .tuple #[userV ([], []), .bool false]
/-- slices.IndexFunc of the law's closure -/
def idxU (l : PL) (n : List UInt8) : Int := if posU l n < l.length then (posU l n : Nat) else -1
end Go.Proofs.YtfeenkofnbefaaaGreatDoor

namespace Go.Proofs.YtfeenkofnbefaaaGreatDoor
open Go Go.RowKit Go.ChangeShapes Go.WideShapes Go.Joins
set_option linter.unusedVariables false
set_option linter.unusedSectionVars false
set_option linter.unusedSimpArgs false
set_option maxRecDepth 100000
theorem reach_of_each {H : Type} {P : Program} {ts : List TypeId} {ds : List (DataW H)} (h : (DataW.weightsEach P ts ds).all (· ≤ reachBytes) = true) {j : Nat} {t : TypeId} {d : DataW H} (ht : ts[j]? = some t) (hd : ds[j]? = some d) : ∀ n ∈ d.weights P t, n ≤ reachBytes :=
  fun n hn => by simpa using List.all_eq_true.1 h n (DataW.weights_mem_each ht hd n hn)
theorem reach_str {H : Type} {P : Program} {ts : List TypeId} {ds : List (DataW H)} (h : (DataW.weightsEach P ts ds).all (· ≤ reachBytes) = true) {j : Nat} {t : TypeId} {s : ByteArray} (ht : ts[j]? = some t) (hd : ds[j]? = some (.lit (.string s.data.toList))) : s.size ≤ 140737488355328 := by
  have h1 := reach_of_each h ht hd
  have := h1 s.data.toList.length (by simp [DataW.weights])
  have hre : reachBytes ≤ 140737488355328 := by decide
  have h2 : s.data.toList.length = s.size := by simp
  omega
theorem weightsAll_mem' {H : Type} {P : Program} {e : TypeId} : ∀ {l : List (DataW H)} {d : DataW H}, d ∈ l → ∀ n ∈ d.weights P e, n ∈ DataW.weightsAll P e l
  | x :: l, d, hd, n, hn => by
    rw [DataW.weightsAll]
    rcases List.mem_cons.1 hd with rfl | hd
    · exact List.mem_append_left _ hn
    · exact List.mem_append_right _ (weightsAll_mem' hd n hn)
/-- sizes that come in have -/
def UBd (l : PL) : Prop := l.length ≤ 9223372036854775807 ∧ ∀ k, (l.getD k ([], [])).1.length ≤ 140737488355328 ∧ (l.getD k ([], [])).2.length ≤ 140737488355328
theorem users_open {H : Type} {enc : TypeId × Value → H} {W : World} {fuel : Nat} {a0 : Option Addr} {len cap : Nat} {x : DataW H × List MemPlace}
    (h : DataW.trod enc Tryz.prog W 0 (fun _ => true) true fuel 58 (Value.slice a0 len cap).cells.toList = some x) (hw : ∀ n ∈ x.1.weights Tryz.prog 58, n ≤ reachBytes) :
    ∃ l, PSl W (.slice a0 len cap) l ∧ UBd l := by
  have cs : Tryz.prog.cellsOf 9 = 1 := by kernel_rfl
  rcases Go.Deep.open_slice_pairs Tryz.underlying58 Tryz.underlying60 (by kernel_rfl) rfl rfl cs cs h with ⟨hc, _⟩ | ⟨a, l, c, m, n, V0, V1, D0, D1, P0, P1, hc, _, hl, hm, hmm, hx, hi⟩
  · simp [Value.cells] at hc
    obtain ⟨rfl, rfl, rfl⟩ := hc
    exact ⟨[], psl_nil W, by simp, by intro k; simp⟩
  · simp [Value.cells] at hc
    obtain ⟨rfl, rfl, rfl⟩ := hc
    simp only [if_true] at hmm
    have hre : reachBytes ≤ 140737488355328 := by decide
    have hi' : ∀ k, k < len → W.cell? (a.add (k * 2)) = some (.string (bs (strB2 (V0 k)))) ∧ W.cell? (a.add (k * 2 + 1)) = some (.string (bs (strB2 (V1 k)))) ∧ (strB2 (V0 k)).length ≤ 140737488355328 ∧ (strB2 (V1 k)).length ≤ 140737488355328 := by
      intro k hk
      obtain ⟨g0, g1, d0, d1⟩ := hi k (by omega)
      obtain ⟨s, e0, f0, ws⟩ := DataW.trod_string Tryz.underlying9 d0
      obtain ⟨s', e1, f1, ws'⟩ := DataW.trod_string Tryz.underlying9 d1
      simp only [List.cons.injEq, and_true] at e0 e1
      rw [e0] at g0; rw [e1] at g1
      have f0' : D0 k = .lit (.string s.data.toList) := congrArg Prod.fst f0
      have f1' : D1 k = .lit (.string s'.data.toList) := congrArg Prod.fst f1
      have hmem : ∀ n ∈ (DataW.agg [D0 k, D1 k]).weights Tryz.prog 60, n ≤ reachBytes := fun n hn => hw n (by
        rw [hx]
        simp only [DataW.weights, Tryz.underlying58]
        exact List.mem_cons_of_mem _ (List.mem_append_left _ (weightsAll_mem' (d := .agg [D0 k, D1 k]) (List.mem_map.2 ⟨k, List.mem_range.2 hk, rfl⟩) _ hn)))
      have b0 := hmem s.data.toList.length (by
        simp only [DataW.weights, Tryz.underlying60]
        rw [f0', f1']
        simp [DataW.weightsEach, DataW.weights])
      have b1 := hmem s'.data.toList.length (by
        simp only [DataW.weights, Tryz.underlying60]
        rw [f0', f1']
        simp [DataW.weightsEach, DataW.weights])
      simp only [e0, e1, strB2]
      exact ⟨by rw [g0, bs_data], by rw [g1, bs_data], by omega, by omega⟩
    refine ⟨(List.range len).map fun k => (strB2 (V0 k), strB2 (V1 k)), ⟨some a, cap, by simp, by rw [pairCells_length], ?_⟩, ?_⟩
    · by_cases h0 : len = 0
      · left; simp [h0]
      · right
        obtain ⟨ab, ao, asp⟩ := a
        have hsp : asp = none := by simpa [Addr.add] using World.cell?_spot (hi' 0 (by omega)).1
        subst hsp
        refine ⟨ab, ao, rfl, fun j u hu => ?_⟩
        have hj : j < len * 2 := by
          have := (List.getElem?_eq_some_iff.1 hu).1
          rw [pairCells_length] at this; simpa using this
        have key : ∀ k, k < len → (((List.range len).map fun k => (strB2 (V0 k), strB2 (V1 k))).getD k ([], [])) = (strB2 (V0 k), strB2 (V1 k)) := by
          intro k hk; rw [List.getD, List.getElem?_map, List.getElem?_range hk]; rfl
        rcases Nat.mod_two_eq_zero_or_one j with hm2 | hm2
        · obtain ⟨k, rfl⟩ : ∃ k, j = 2 * k := ⟨j / 2, by omega⟩
          have := (pairCells_at ((List.range len).map fun k => (strB2 (V0 k), strB2 (V1 k))) k (by simp; omega)).1
          rw [key k (by omega)] at this
          rw [this] at hu
          cases hu
          have g := (hi' k (by omega)).1
          rw [show (⟨ab, ao, none⟩ : Addr).add (k * 2) = ⟨ab, ao + 2 * k, none⟩ by unfold Addr.add; split <;> simp <;> omega] at g
          exact g
        · obtain ⟨k, rfl⟩ : ∃ k, j = 2 * k + 1 := ⟨j / 2, by omega⟩
          have := (pairCells_at ((List.range len).map fun k => (strB2 (V0 k), strB2 (V1 k))) k (by simp; omega)).2
          rw [key k (by omega)] at this
          rw [this] at hu
          cases hu
          have g := (hi' k (by omega)).2.1
          rw [show (⟨ab, ao, none⟩ : Addr).add (k * 2 + 1) = ⟨ab, ao + (2 * k + 1), none⟩ by unfold Addr.add; rw [if_neg (by omega)]; simp; omega] at g
          exact g
    · unfold maxLen at hm
      refine ⟨by simp; omega, fun k => ?_⟩
      by_cases hk : k < len
      · rw [List.getD, List.getElem?_map, List.getElem?_range hk]
        exact (hi' k hk).2.2
      · rw [List.getD, List.getElem?_eq_none (by simp; omega)]; simp
end Go.Proofs.YtfeenkofnbefaaaGreatDoor
