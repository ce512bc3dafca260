/- A slice of additional headers, opened. -/
import Derived.Test.YtdgfeanjeoendaaDoorAhsW
import Derived.Deep.SlicePairs
import Derived.OpenShut
namespace Go.Proofs.YtdgfeanjeoendaaDoor
open Go.RowKit
open Go.ChangeShapes Go.WideShapes
set_option linter.unusedVariables false
def strB : Value → List UInt8 | .string s => s.data.toList | _ => []
open Go.ChangeShapes Go.WideShapes in
theorem ahsIn_of_trod {H : Type} {enc : TypeId × Value → H} {W : World} {fuel : Nat} {a0 : Option Addr} {len cap : Nat} {x : DataW H × List MemPlace}
    (h : DataW.trod enc Tryd.prog W 0 (fun _ => true) true fuel 43 (Value.slice a0 len cap).cells.toList = some x) : ∃ n I, AhsIn W (.slice a0 len cap) n I := by
  rcases Go.Deep.open_slice_pairs Tryd.underlying43 Tryd.underlying58 (by kernel_rfl) rfl rfl (by kernel_rfl) (by kernel_rfl) h with ⟨hc, _⟩ | ⟨a, l, c, m, n, V0, V1, D0, D1, P0, P1, hc, _, hl, hm, hmm, _, hi⟩
  · simp [Value.cells] at hc
    obtain ⟨rfl, rfl, rfl⟩ := hc
    exact ⟨0, fun _ => (0, []), by omega, .inl ⟨rfl, rfl⟩, fun a m cap e => by cases e⟩
  · simp [Value.cells] at hc
    obtain ⟨rfl, rfl, rfl⟩ := hc
    simp only [if_true] at hmm
    refine ⟨len, fun i => (intOf (V0 i), strB (V1 i)), Nat.le_trans hl hm, .inr ⟨a, cap, rfl⟩, fun a' m' c' e k hk => ?_⟩
    cases e
    obtain ⟨g0, g1, t0, t1⟩ := hi k (by omega)
    obtain ⟨q, e0, _, wq⟩ := DataW.trod_int Tryd.underlying3 t0
    obtain ⟨s, e1, _, ws⟩ := DataW.trod_string Tryd.underlying9 t1
    simp only [List.cons.injEq, and_true] at e0 e1
    have b := bounds_i64 wq
    rw [e0] at g0
    rw [e1] at g1
    simp only [e0, e1, intOf, strB]
    exact ⟨g0, by rw [g1, bs_data], b.1, b.2, by simpa using ws⟩
end Go.Proofs.YtdgfeanjeoendaaDoor
