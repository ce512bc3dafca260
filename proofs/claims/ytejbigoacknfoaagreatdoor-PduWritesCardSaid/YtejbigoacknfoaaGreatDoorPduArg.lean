/- A PDU that comes in, opened. -/
import Derived.Test.YtejbigoacknfoaaGreatDoorAhsIn
import Derived.Test.YtejbigoacknfoaaGreatDoorPduRight
set_option linter.unusedSectionVars false
set_option linter.unusedSimpArgs false
set_option linter.unusedVariables false
namespace Go.Proofs.YtejbigoacknfoaaGreatDoor
open Go Go.RowKit Go.ChangeShapes Go.WideShapes Go.Joins
set_option linter.unusedVariables false
set_option linter.unusedSectionVars false
set_option linter.unusedSimpArgs false
set_option maxRecDepth 100000
theorem array6 {α : Type} {cs : Array α} (h : cs.size = 6) : ∃ c0 c1 c2 c3 c4 c5, cs = #[c0, c1, c2, c3, c4, c5] := by
  obtain ⟨l⟩ := cs
  match l, h with
  | [c0, c1, c2, c3, c4, c5], _ => exact ⟨c0, c1, c2, c3, c4, c5, rfl⟩
theorem head_cells_open {H : Type} {enc : TypeId × Value → H} {W : World} {fuel : Nat} {c0 c1 c2 c3 : Value} {x : DataW H × List MemPlace}
    (h : DataW.trod enc Tryz.prog W 0 (fun _ => true) true fuel 52 [c0, c1, c2, c3] = some x) :
    ∃ op now flags sa sc vs, c0 = .int .i64 op ∧ c1 = .bool now ∧ c2 = .int .i64 flags ∧ c3 = .slice sa (List.length vs) sc ∧ (-9223372036854775808 ≤ op ∧ op ≤ 9223372036854775807) ∧ (-9223372036854775808 ≤ flags ∧ flags ≤ 9223372036854775807) ∧
      vs.length ≤ 9223372036854775807 ∧ (∀ x ∈ vs, x ≤ 18446744073709551615) ∧ Sl W (.slice sa vs.length sc) 1 vs.length (u64Cells vs) := by
  obtain ⟨y0, y1, y2, y3, n, _, _, h0, h1, h2, h3⟩ := trod_struct4 Tryz.underlying52 h
  have ci : Tryz.prog.cellsOf 3 = 1 := by kernel_rfl
  have cb : Tryz.prog.cellsOf 4 = 1 := by kernel_rfl
  have cv : Tryz.prog.cellsOf 50 = 1 := by kernel_rfl
  simp only [ci, cb, cv, List.drop_zero, List.drop_succ_cons, List.take_succ_cons, List.take_zero] at h0 h1 h2 h3
  obtain ⟨op, e0, _, w0⟩ := DataW.trod_int Tryz.underlying3 h0
  obtain ⟨now, e1, _⟩ := DataW.trod_bool Tryz.underlying4 h1
  obtain ⟨flags, e2, _, w2⟩ := DataW.trod_int Tryz.underlying3 h2
  simp only [List.cons.injEq, and_true] at e0 e1 e2
  subst e0 e1 e2
  have b0 := bounds_i64 w0
  have b2 := bounds_i64 w2
  have cu : Tryz.prog.cellsOf 161 = 1 := by kernel_rfl
  rcases open_ints Tryz.underlying50 Tryz.underlying161 cu h3 with ⟨hc, _⟩ | ⟨a, len, cap, zs, hc, _, hl, hm, hz, _, hcell, hwf⟩
  · simp only [List.cons.injEq, and_true] at hc
    subst hc
    exact ⟨op, now, flags, none, 0, [], rfl, rfl, rfl, rfl, b0, b2, by simp, by simp, sl_nil W 1⟩
  · simp only [List.cons.injEq, and_true] at hc
    subst hc
    simp only [if_true] at hz
    obtain ⟨vs, hvl, hvb, hsl⟩ := u64_of_ints (cap := cap) (len := len) (by omega) hcell (fun n hn => by
      have := hwf n hn
      have h2 : IntKind.u64.min ≤ n ∧ n ≤ IntKind.u64.max := by simpa [Lit.wf] using this
      have e1 : IntKind.u64.min = 0 := by decide
      have e2 : IntKind.u64.max = 18446744073709551615 := by decide
      omega)
    unfold maxLen at hm
    subst hvl
    exact ⟨op, now, flags, some a, cap, vs, rfl, rfl, rfl, rfl, b0, b2, by omega, hvb, hsl⟩
theorem pdu_open {H : Type} {enc : TypeId × Value → H} {W : World} {r : Reach} {b0 : Nat} {v : Value} {d : DataW H} {p : List MemPlace}
    (hv : Value.okWide Tryz.prog W r b0 55 v) (h : DataW.Trod enc Tryz.prog W 0 (fun _ => true) true 55 v d p) :
    ∃ op now flags sv vs av n I dd, v = pduV op now flags sv av dd ∧ PduIn W op flags sv vs av n I dd := by
  obtain ⟨cs, rfl, hsz⟩ := okWide_struct Tryz.underlying55 hv
  have c6 : Tryz.prog.cellsOf 55 = 6 := by kernel_rfl
  have c4 : Tryz.prog.cellsOf 52 = 4 := by kernel_rfl
  have ca : Tryz.prog.cellsOf 53 = 1 := by kernel_rfl
  have cs1 : Tryz.prog.cellsOf 9 = 1 := by kernel_rfl
  obtain ⟨c0, c1, c2, c3, c4', c5, rfl⟩ := array6 (hsz.trans c6)
  obtain ⟨fuel, hf⟩ := h
  obtain ⟨y0, y1, y2, n, _, _, h0, h1, h2⟩ := Go.Deep.trod_struct3 Tryz.underlying55 hf
  simp only [c4, ca, cs1, Value.cells, List.drop_zero, List.drop_succ_cons, List.take_succ_cons, List.take_zero] at h0 h1 h2
  obtain ⟨op, now, flags, sa, sc, vs, rfl, rfl, rfl, rfl, ob, fb, nb, vb, hs⟩ := head_cells_open h0
  obtain ⟨aa, al, ac, e⟩ := slice_form Tryz.underlying53 h1
  simp only [List.cons.injEq, and_true] at e
  subst e
  obtain ⟨m, I, hA⟩ := ahsIn_of_trod (a0 := aa) (len := al) (cap := ac) (by simpa [Value.cells] using h1)
  obtain ⟨s, e, _, hss⟩ := DataW.trod_string Tryz.underlying9 h2
  have e' := e
  simp only [List.cons.injEq, and_true] at e'
  subst e'
  refine ⟨op, now, flags, _, vs, _, m, I, s.data.toList, by rw [pduV, bs_data], ob.1, ob.2, fb.1, fb.2, nb, vb, hs, hA, ?_⟩
  unfold maxLen at hss
  simpa using hss
end Go.Proofs.YtejbigoacknfoaaGreatDoor
