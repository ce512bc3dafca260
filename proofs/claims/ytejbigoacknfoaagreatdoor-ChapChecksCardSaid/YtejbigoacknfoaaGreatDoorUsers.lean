/- Users and a draw that come in, opened. -/
import Derived.Test.YtejbigoacknfoaaGreatDoorCardBase
import Derived.Test.YtejbigoacknfoaaGreatDoorPairIn
import Derived.Test.YtejbigoacknfoaaGreatDoorChapFind
import Derived.Lib.SmallJoins
import Derived.ChangeSlices
set_option linter.unusedSectionVars false
set_option linter.unusedSimpArgs false
set_option linter.unusedVariables false
namespace Go.Proofs.YtejbigoacknfoaaGreatDoor
open Go Go.RowKit Go.ChangeShapes Go.WideShapes Go.Joins
set_option linter.unusedVariables false
set_option linter.unusedSectionVars false
set_option linter.unusedSimpArgs false
set_option maxRecDepth 100000
theorem reach_of_each {H : Type} {P : Program} {ts : List TypeId} {ds : List (DataW H)} (h : (DataW.weightsEach P ts ds).all (· ≤ reachBytes) = true) {j : Nat} {t : TypeId} {d : DataW H} (ht : ts[j]? = some t) (hd : ds[j]? = some d) : ∀ n ∈ d.weights P t, n ≤ reachBytes :=
  fun n hn => by simpa using List.all_eq_true.1 h n (DataW.weights_mem_each ht hd n hn)
theorem reach_str {H : Type} {P : Program} {ts : List TypeId} {ds : List (DataW H)} (h : (DataW.weightsEach P ts ds).all (· ≤ reachBytes) = true) {j : Nat} {t : TypeId} {s : ByteArray} (ht : ts[j]? = some t) (hd : ds[j]? = some (.lit (.string s.data.toList))) : s.size ≤ 140737488355328 := by
  have h1 := reach_of_each h ht hd
  have := h1 s.data.toList.length (by simp [DataW.weights])
  have hre : reachBytes ≤ 140737488355328 := by decide
  have h2 : s.data.toList.length = s.size := by simp
  omega
theorem weightsAll_mem' {H : Type} {P : Program} {e : TypeId} : ∀ {l : List (DataW H)} {d : DataW H}, d ∈ l → ∀ n ∈ d.weights P e, n ∈ DataW.weightsAll P e l
  | x :: l, d, hd, n, hn => by
    rw [DataW.weightsAll]
    rcases List.mem_cons.1 hd with rfl | hd
    · exact List.mem_append_left _ hn
    · exact List.mem_append_right _ (weightsAll_mem' hd n hn)
/-- sizes that come in have -/
def UBd (l : PL) : Prop := l.length ≤ 9223372036854775807 ∧ ∀ k, (l.getD k ([], [])).1.length ≤ 140737488355328 ∧ (l.getD k ([], [])).2.length ≤ 140737488355328
theorem users_open {H : Type} {enc : TypeId × Value → H} {W : World} {fuel : Nat} {a0 : Option Addr} {len cap : Nat} {x : DataW H × List MemPlace}
    (h : DataW.trod enc Tryz.prog W 0 (fun _ => true) true fuel 34 (Value.slice a0 len cap).cells.toList = some x) (hw : ∀ n ∈ x.1.weights Tryz.prog 34, n ≤ reachBytes) :
    ∃ l, PSl W (.slice a0 len cap) l ∧ UBd l := by
  have cs : Tryz.prog.cellsOf 9 = 1 := by kernel_rfl
  rcases Go.Deep.open_slice_pairs Tryz.underlying34 Tryz.underlying38 (by kernel_rfl) rfl rfl cs cs h with ⟨hc, _⟩ | ⟨a, l, c, m, n, V0, V1, D0, D1, P0, P1, hc, _, hl, hm, hmm, hx, hi⟩
  · simp [Value.cells] at hc
    obtain ⟨rfl, rfl, rfl⟩ := hc
    exact ⟨[], psl_nil W, by simp, by intro k; simp⟩
  · simp [Value.cells] at hc
    obtain ⟨rfl, rfl, rfl⟩ := hc
    simp only [if_true] at hmm
    have hre : reachBytes ≤ 140737488355328 := by decide
    have hi' : ∀ k, k < len → W.cell? (a.add (k * 2)) = some (.string (bs (strB2 (V0 k)))) ∧ W.cell? (a.add (k * 2 + 1)) = some (.string (bs (strB2 (V1 k)))) ∧ (strB2 (V0 k)).length ≤ 140737488355328 ∧ (strB2 (V1 k)).length ≤ 140737488355328 := by
      intro k hk
      obtain ⟨g0, g1, d0, d1⟩ := hi k (by omega)
      obtain ⟨s, e0, f0, ws⟩ := DataW.trod_string Tryz.underlying9 d0
      obtain ⟨s', e1, f1, ws'⟩ := DataW.trod_string Tryz.underlying9 d1
      simp only [List.cons.injEq, and_true] at e0 e1
      rw [e0] at g0; rw [e1] at g1
      have f0' : D0 k = .lit (.string s.data.toList) := congrArg Prod.fst f0
      have f1' : D1 k = .lit (.string s'.data.toList) := congrArg Prod.fst f1
      have hmem : ∀ n ∈ (DataW.agg [D0 k, D1 k]).weights Tryz.prog 38, n ≤ reachBytes := fun n hn => hw n (by
        rw [hx]
        simp only [DataW.weights, Tryz.underlying34]
        exact List.mem_cons_of_mem _ (List.mem_append_left _ (weightsAll_mem' (d := .agg [D0 k, D1 k]) (List.mem_map.2 ⟨k, List.mem_range.2 hk, rfl⟩) _ hn)))
      have b0 := hmem s.data.toList.length (by
        simp only [DataW.weights, Tryz.underlying38]
        rw [f0', f1']
        simp [DataW.weightsEach, DataW.weights])
      have b1 := hmem s'.data.toList.length (by
        simp only [DataW.weights, Tryz.underlying38]
        rw [f0', f1']
        simp [DataW.weightsEach, DataW.weights])
      simp only [e0, e1, strB2]
      exact ⟨by rw [g0, bs_data], by rw [g1, bs_data], by omega, by omega⟩
    refine ⟨(List.range len).map fun k => (strB2 (V0 k), strB2 (V1 k)), ⟨some a, cap, by simp, by rw [pairCells_length], ?_⟩, ?_⟩
    · by_cases h0 : len = 0
      · left; simp [h0]
      · right
        obtain ⟨ab, ao, asp⟩ := a
        have hsp : asp = none := by simpa [Addr.add] using World.cell?_spot (hi' 0 (by omega)).1
        subst hsp
        refine ⟨ab, ao, rfl, fun j u hu => ?_⟩
        have hj : j < len * 2 := by
          have := (List.getElem?_eq_some_iff.1 hu).1
          rw [pairCells_length] at this; simpa using this
        have key : ∀ k, k < len → (((List.range len).map fun k => (strB2 (V0 k), strB2 (V1 k))).getD k ([], [])) = (strB2 (V0 k), strB2 (V1 k)) := by
          intro k hk; rw [List.getD, List.getElem?_map, List.getElem?_range hk]; rfl
        rcases Nat.mod_two_eq_zero_or_one j with hm2 | hm2
        · obtain ⟨k, rfl⟩ : ∃ k, j = 2 * k := ⟨j / 2, by omega⟩
          have := (pairCells_at ((List.range len).map fun k => (strB2 (V0 k), strB2 (V1 k))) k (by simp; omega)).1
          rw [key k (by omega)] at this
          rw [this] at hu
          cases hu
          have g := (hi' k (by omega)).1
          rw [show (⟨ab, ao, none⟩ : Addr).add (k * 2) = ⟨ab, ao + 2 * k, none⟩ by unfold Addr.add; split <;> simp <;> omega] at g
          exact g
        · obtain ⟨k, rfl⟩ : ∃ k, j = 2 * k + 1 := ⟨j / 2, by omega⟩
          have := (pairCells_at ((List.range len).map fun k => (strB2 (V0 k), strB2 (V1 k))) k (by simp; omega)).2
          rw [key k (by omega)] at this
          rw [this] at hu
          cases hu
          have g := (hi' k (by omega)).2.1
          rw [show (⟨ab, ao, none⟩ : Addr).add (k * 2 + 1) = ⟨ab, ao + (2 * k + 1), none⟩ by unfold Addr.add; rw [if_neg (by omega)]; simp; omega] at g
          exact g
    · unfold maxLen at hm
      refine ⟨by simp; omega, fun k => ?_⟩
      by_cases hk : k < len
      · rw [List.getD, List.getElem?_map, List.getElem?_range hk]
        exact (hi' k hk).2.2
      · rw [List.getD, List.getElem?_eq_none (by simp; omega)]; simp
theorem draw_open {H : Type} {enc : TypeId × Value → H} {W : World} {r : Reach} {b0 : Nat} {v : Value} {d : DataW H} {p : List MemPlace}
    (hv : Value.okWide Tryz.prog W r b0 36 v) (h : DataW.Trod enc Tryz.prog W 0 (fun _ => true) true 36 v d p) (hw : ∀ n ∈ d.weights Tryz.prog 36, n ≤ reachBytes) :
    ∃ id ch, v = .agg #[.int .i64 id, .string (bs ch)] ∧ ch.length ≤ 140737488355328 := by
  obtain ⟨v0, v1, y0, y1, n, rfl, rfl, rfl, h0, h1⟩ := open_agg2 Tryz.underlying36 (by kernel_rfl) (by kernel_rfl) hv h
  obtain ⟨id, e0, f0, _⟩ := DataW.trod_int Tryz.underlying3 h0
  obtain ⟨s, e1, f1, _⟩ := DataW.trod_string Tryz.underlying9 h1
  simp only [List.cons.injEq, and_true] at e0 e1
  subst e0 e1
  have f1' : y1.1 = .lit (.string s.data.toList) := congrArg Prod.fst f1
  have b1 := hw s.data.toList.length (by
    simp only [DataW.weights, Tryz.underlying36]
    rw [f1']
    simp [DataW.weightsEach, DataW.weights])
  have hre : reachBytes ≤ 140737488355328 := by decide
  exact ⟨id, s.data.toList, by rw [bs_data], by omega⟩
end Go.Proofs.YtejbigoacknfoaaGreatDoor
