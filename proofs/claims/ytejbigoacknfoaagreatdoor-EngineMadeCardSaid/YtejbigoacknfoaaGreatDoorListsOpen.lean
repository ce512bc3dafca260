/- A head that comes in, opened. -/
import Derived.Test.YtejbigoacknfoaaGreatDoorBlk
import Derived.Test.YtejbigoacknfoaaGreatDoorHeadIn
import Derived.Lib.SmallJoins
import Derived.ChangeSlices
import Derived.Test.YtejbigoacknfoaaGreatDoorHeadMk
import Derived.SliceStrings
set_option linter.unusedSectionVars false
set_option linter.unusedSimpArgs false
set_option linter.unusedVariables false
namespace Go.Proofs.YtejbigoacknfoaaGreatDoor
open Go Go.RowKit Go.ChangeShapes Go.WideShapes Go.Joins
set_option linter.unusedVariables false
set_option linter.unusedSectionVars false
set_option linter.unusedSimpArgs false
set_option maxRecDepth 100000
theorem u64_of_ints {W : World} {a : Addr} {len cap : Nat} {zs : List Int} (hl : len ≤ zs.length) (hc : ∀ i, i < zs.length → W.cell? (a.add i) = some (.int .u64 (zs.getD i 0))) (hb : ∀ n ∈ zs, 0 ≤ n ∧ n ≤ 18446744073709551615) :
    ∃ vs : List Nat, vs.length = len ∧ (∀ x ∈ vs, x ≤ 18446744073709551615) ∧ Sl W (.slice (some a) vs.length cap) 1 vs.length (u64Cells vs) := by
  refine ⟨(zs.take len).map Int.toNat, by simp; omega, ?_, ?_⟩
  · intro x hx
    obtain ⟨n, hn, rfl⟩ := List.mem_map.1 hx
    have := hb n (List.mem_of_mem_take hn)
    omega
  have hln : ((zs.take len).map Int.toNat).length = len := by simp; omega
  rw [hln]
  refine ⟨some a, cap, rfl, by simp [u64Cells]; omega, ?_⟩
  by_cases h0 : len = 0
  · exact .inl h0
  · right
    obtain ⟨ab, ao, asp⟩ := a
    have hsp : asp = none := by simpa [Addr.add] using World.cell?_spot (hc 0 (by omega))
    subst hsp
    refine ⟨ab, ao, rfl, fun j u hu => ?_⟩
    have hj : j < len := by
      have := (List.getElem?_eq_some_iff.1 hu).1
      simp [u64Cells] at this; omega
    have hz := hc j (by omega)
    rw [show (⟨ab, ao, none⟩ : Addr).add j = ⟨ab, ao + j, none⟩ by unfold Addr.add; split <;> simp <;> omega] at hz
    rw [hz]
    have hjz : j < zs.length := by omega
    have hbz := hb zs[j] (List.getElem_mem hjz)
    rw [u64Cells, List.getElem?_map, List.getElem?_map, List.getElem?_take, if_pos hj, List.getElem?_eq_getElem hjz] at hu
    simp only [Option.map_some, Option.some.injEq] at hu
    rw [← hu, List.getD, List.getElem?_eq_getElem hjz]
    simp only [Option.getD_some]
    rw [Int.toNat_of_nonneg hbz.1]
theorem head_open {H : Type} {enc : TypeId × Value → H} {W : World} {r : Reach} {b0 : Nat} {v : Value} {d : DataW H} {p : List MemPlace}
    (hv : Value.okWide Tryz.prog W r b0 52 v) (h : DataW.Trod enc Tryz.prog W 0 (fun _ => true) true 52 v d p) :
    ∃ op now flags sa sc vs, v = headV op now flags (.slice sa (List.length vs) sc) ∧ (-9223372036854775808 ≤ op ∧ op ≤ 9223372036854775807) ∧ (-9223372036854775808 ≤ flags ∧ flags ≤ 9223372036854775807) ∧
      vs.length ≤ 9223372036854775807 ∧ (∀ x ∈ vs, x ≤ 18446744073709551615) ∧ Sl W (.slice sa vs.length sc) 1 vs.length (u64Cells vs) := by
  obtain ⟨v0, v1, v2, v3, y0, y1, y2, y3, n, rfl, rfl, rfl, h0, h1, h2, h3⟩ := open_agg4 Tryz.underlying52 (by kernel_rfl) (by kernel_rfl) hv h
  obtain ⟨op, e0, _, w0⟩ := DataW.trod_int Tryz.underlying3 h0
  obtain ⟨now, e1, _⟩ := DataW.trod_bool Tryz.underlying4 h1
  obtain ⟨flags, e2, _, w2⟩ := DataW.trod_int Tryz.underlying3 h2
  simp only [List.cons.injEq, and_true] at e0 e1 e2
  subst e0 e1 e2
  have b0 := bounds_i64 w0
  have b2 := bounds_i64 w2
  have cu : Tryz.prog.cellsOf 161 = 1 := by kernel_rfl
  rcases open_ints Tryz.underlying50 Tryz.underlying161 cu h3 with ⟨hc, _⟩ | ⟨a, len, cap, zs, hc, _, hl, hm, hz, _, hcell, hwf⟩
  · simp only [List.cons.injEq, and_true] at hc
    subst hc
    exact ⟨op, now, flags, none, 0, [], rfl, b0, b2, by simp, by simp, sl_nil W 1⟩
  · simp only [List.cons.injEq, and_true] at hc
    subst hc
    simp only [if_true] at hz
    obtain ⟨vs, hvl, hvb, hsl⟩ := u64_of_ints (cap := cap) (len := len) (by omega) hcell (fun n hn => by
      have := hwf n hn
      have h2 : IntKind.u64.min ≤ n ∧ n ≤ IntKind.u64.max := by simpa [Lit.wf] using this
      have e1 : IntKind.u64.min = 0 := by decide
      have e2 : IntKind.u64.max = 18446744073709551615 := by decide
      omega)
    unfold maxLen at hm
    subst hvl
    exact ⟨op, now, flags, some a, cap, vs, rfl, b0, b2, by omega, hvb, hsl⟩
end Go.Proofs.YtejbigoacknfoaaGreatDoor

namespace Go.Proofs.YtejbigoacknfoaaGreatDoor
open Go Go.RowKit Go.ChangeShapes Go.WideShapes Go.Joins
set_option linter.unusedVariables false
set_option linter.unusedSectionVars false
set_option linter.unusedSimpArgs false
set_option maxRecDepth 100000
theorem reach_each {H : Type} {P : Program} {ts : List TypeId} {ds : List (DataW H)} (h : (DataW.weightsEach P ts ds).all (· ≤ reachBytes) = true) {j : Nat} {t : TypeId} {d : DataW H} (ht : ts[j]? = some t) (hd : ds[j]? = some d) : ∀ n ∈ d.weights P t, n ≤ reachBytes :=
  fun n hn => by simpa using List.all_eq_true.1 h n (DataW.weights_mem_each ht hd n hn)
theorem names_open {H : Type} {enc : TypeId × Value → H} {W : World} {fuel : Nat} {a0 : Option Addr} {len cap : Nat} {x : DataW H × List MemPlace}
    (h : DataW.trod enc Tryz.prog W 0 (fun _ => true) true fuel 63 (Value.slice a0 len cap).cells.toList = some x) (hw : ∀ n ∈ x.1.weights Tryz.prog 63, n ≤ reachBytes) :
    ∃ ns : List (List UInt8), Sl W (.slice a0 len cap) 1 ns.length (strCells ns) ∧ ns.length ≤ 140737488355328 ∧ ∀ s ∈ ns, s.length ≤ 9223372036854775807 := by
  have cs : Tryz.prog.cellsOf 9 = 1 := by kernel_rfl
  have bsz : Tryz.prog.bytesOf 9 = 16 := by kernel_rfl
  have hre : reachBytes ≤ 140737488355328 := by decide
  rcases open_strings Tryz.underlying63 Tryz.underlying9 cs h with ⟨hc, _⟩ | ⟨a, l, c, ss, hc, _, hl, hm, hz, hx, hcell, hsz⟩
  · simp [Value.cells] at hc
    obtain ⟨rfl, rfl, rfl⟩ := hc
    exact ⟨[], sl_nil W 1, by simp, by simp⟩
  · simp [Value.cells] at hc
    obtain ⟨rfl, rfl, rfl⟩ := hc
    simp only [if_true] at hz
    have hwt := hw (((strs (H := H) (ss.take len)).length + (strs (H := H) (ss.drop len)).length) * Tryz.prog.bytesOf 9) (by
      rw [hx]
      simp only [DataW.weights, Tryz.underlying63]
      exact List.mem_cons_self)
    rw [bsz] at hwt
    have hls : (strs (H := H) (ss.take len)).length + (strs (H := H) (ss.drop len)).length = ss.length := by
      simp [strs]; omega
    rw [hls] at hwt
    have hln : ((ss.take len).map fun s => s.data.toList).length = len := by simp; omega
    refine ⟨(ss.take len).map fun s => s.data.toList, ?_, by rw [hln]; omega, ?_⟩
    · rw [hln]
      refine ⟨some a, cap, rfl, by simp [strCells]; omega, ?_⟩
      by_cases h0 : len = 0
      · exact .inl h0
      · right
        obtain ⟨ab, ao, asp⟩ := a
        have hsp : asp = none := by simpa [Addr.add] using World.cell?_spot (hcell 0 (by omega))
        subst hsp
        refine ⟨ab, ao, rfl, fun j u hu => ?_⟩
        have hj : j < len := by
          have := (List.getElem?_eq_some_iff.1 hu).1
          simp [strCells] at this; omega
        have hc := hcell j (by omega)
        rw [show (⟨ab, ao, none⟩ : Addr).add j = ⟨ab, ao + j, none⟩ by unfold Addr.add; split <;> simp <;> omega] at hc
        rw [hc]
        have hjz : j < ss.length := by omega
        rw [strCells, List.getElem?_map, List.getElem?_map, List.getElem?_take, if_pos hj, List.getElem?_eq_getElem hjz] at hu
        simp only [Option.map_some, Option.some.injEq] at hu
        rw [← hu, List.getD, List.getElem?_eq_getElem hjz]
        simp [bs_data]
    · intro s hs
      obtain ⟨t, ht, rfl⟩ := List.mem_map.1 hs
      have := hsz t (List.mem_of_mem_take ht)
      unfold maxLen at this
      simpa using this
theorem nums_open {H : Type} {enc : TypeId × Value → H} {W : World} {fuel : Nat} {a0 : Option Addr} {len cap : Nat} {x : DataW H × List MemPlace}
    (h : DataW.trod enc Tryz.prog W 0 (fun _ => true) true fuel 50 (Value.slice a0 len cap).cells.toList = some x) (hw : ∀ n ∈ x.1.weights Tryz.prog 50, n ≤ reachBytes) :
    ∃ vs : List Nat, Sl W (.slice a0 len cap) 1 vs.length (u64Cells vs) ∧ vs.length ≤ 140737488355328 ∧ ∀ x ∈ vs, x ≤ 18446744073709551615 := by
  have cu : Tryz.prog.cellsOf 161 = 1 := by kernel_rfl
  have bsz : Tryz.prog.bytesOf 161 = 8 := by kernel_rfl
  have hre : reachBytes ≤ 140737488355328 := by decide
  rcases open_ints Tryz.underlying50 Tryz.underlying161 cu h with ⟨hc, _⟩ | ⟨a, l, c, zs, hc, _, hl, hm, hz, hx, hcell, hwf⟩
  · simp [Value.cells] at hc
    obtain ⟨rfl, rfl, rfl⟩ := hc
    exact ⟨[], sl_nil W 1, by simp, by simp⟩
  · simp [Value.cells] at hc
    obtain ⟨rfl, rfl, rfl⟩ := hc
    simp only [if_true] at hz
    have hwt := hw (((lits (H := H) .u64 (zs.take len)).length + (lits (H := H) .u64 (zs.drop len)).length) * Tryz.prog.bytesOf 161) (by
      rw [hx]
      simp only [DataW.weights, Tryz.underlying50]
      exact List.mem_cons_self)
    rw [bsz] at hwt
    have hls : (lits (H := H) .u64 (zs.take len)).length + (lits (H := H) .u64 (zs.drop len)).length = zs.length := by
      simp [lits]; omega
    rw [hls] at hwt
    obtain ⟨vs, hvl, hvb, hsl⟩ := u64_of_ints (cap := cap) (len := len) (by omega) hcell (fun n hn => by
      have := hwf n hn
      have h2 : IntKind.u64.min ≤ n ∧ n ≤ IntKind.u64.max := by simpa [Lit.wf] using this
      have e1 : IntKind.u64.min = 0 := by decide
      have e2 : IntKind.u64.max = 18446744073709551615 := by decide
      omega)
    subst hvl
    exact ⟨vs, hsl, by omega, hvb⟩
end Go.Proofs.YtejbigoacknfoaaGreatDoor
