/- slices.Equal at rows of pairs that read alike: true. -/
import Derived.Test.YtfeenkofnbefaaaGreatDoorSplitPure
import Derived.Deep.QuietTactic
import Derived.BigQuiet
import Derived.Test.YtfeenkofnbefaaaGreatDoorConfIn
import Derived.Test.YtfeenkofnbefaaaGreatDoorPairVal
import Derived.Lib.SmallJoins
import Derived.ChangeSlices
import Derived.Deep.Strs
set_option linter.unusedSectionVars false
set_option linter.unusedSimpArgs false
set_option linter.unusedVariables false
namespace Go.Proofs.YtfeenkofnbefaaaGreatDoor
open Go.RowKit
set_option linter.unusedVariables false
set_option maxRecDepth 100000
theorem eqPairs_true (v1 v2 : Value) (xs : PL) (w : World) (hn : xs.length ≤ 4611686018427387904) (h1 : PSl w v1 xs) (h2 : PSl w v2 xs) :
    Calls Tryz.prog 25 #[v1, v2] w fun e w' => e = .returned (.bool true) ∧ Below w.heap.size w w' := by
  obtain ⟨a1, c1, rfl, hl1, hc1⟩ := h1
  obtain ⟨a2, c2, rfl, hl2, hc2⟩ := h2
  generalize hn' : xs.length = n at *
  by_cases h0 : n = 0
  · subst h0
    clear hc1 hc2 hn'
    go_enter Tryz.func25, Tryz.ntmps25
    go_wp2
    refine wp_loop_rounds 1 ?_
    rw [rounds_succ]
    go_wp2
    go_ret
    exact ⟨rfl, Below.refl _ _⟩
  obtain ⟨b1, o1, rfl, hd1⟩ := hc1.resolve_left h0
  obtain ⟨b2, o2, rfl, hd2⟩ := hc2.resolve_left h0
  have hcell : ∀ k, k < n → (w.cell? ⟨b1, o1 + k * 2, none⟩ = some (.string (bs (xs.getD k ([], [])).1)) ∧ w.cell? ⟨b1, o1 + k * 2 + 1, none⟩ = some (.string (bs (xs.getD k ([], [])).2))) ∧
      w.cell? ⟨b2, o2 + k * 2, none⟩ = some (.string (bs (xs.getD k ([], [])).1)) ∧ w.cell? ⟨b2, o2 + k * 2 + 1, none⟩ = some (.string (bs (xs.getD k ([], [])).2)) := by
    intro k hk
    obtain ⟨e1, e2⟩ := pairCells_at xs k (by omega)
    have a := hd1 _ _ e1; have b := hd1 _ _ e2; have c := hd2 _ _ e1; have d := hd2 _ _ e2
    simp only [Nat.mul_comm k 2, Nat.add_assoc]
    exact ⟨⟨a, b⟩, c, d⟩
  have Hcell := hid hcell; clear hcell hc1 hc2 hd1 hd2 hl1 hl2 hn'
  go_enter Tryz.func25, Tryz.ntmps25
  go_wp2
  go_loopw [13] (fun i wr => ∃ k q : Nat, k ≤ n ∧ i = .int .i64 k ∧ wr = w.drewN q) (fun i _ => n - (intOf i).toNat)
  case atStart => exact ⟨0, 0, by omega, rfl, rfl⟩
  case round =>
    obtain ⟨k, q, hk, rfl, rfl⟩ := hrel
    by_cases hlt : k < n
    · obtain ⟨⟨g1, g2⟩, g3, g4⟩ := Hcell.out k hlt
      generalize xs.getD k ([], []) = s at *
      obtain ⟨s1, s2⟩ := s
      simp only at g1 g2 g3 g4
      go_wp2
      go_quiet (fail)
      go_wp2
      go_roundw
      case rel => exact ⟨k + 1, _, by omega, by go_num, rfl⟩
      case measure => simp [intOf]; omega
    · go_wp2
      go_ret
      exact ⟨rfl, below_drewN (Below.refl _ _) _⟩
end Go.Proofs.YtfeenkofnbefaaaGreatDoor

namespace Go.Proofs.YtfeenkofnbefaaaGreatDoor
open Go Go.RowKit Go.ChangeShapes Go.WideShapes Go.Joins
set_option linter.unusedVariables false
set_option linter.unusedSectionVars false
set_option linter.unusedSimpArgs false
set_option maxRecDepth 100000
theorem bulkPart {H : Type} {d : DataW H} {l : List (DataW H)} (h : d ∈ l) : Rows.uptoBulk d ≤ Rows.uptoBulkAll l := by
  induction l with
  | nil => cases h
  | cons x r ih =>
    simp only [Rows.uptoBulkAll]
    rcases List.mem_cons.1 h with e | e
    · subst e; omega
    · have := ih e; omega
theorem bulkMap {α : Type} {H : Type} (f : α → Nat) (n : Nat) (D : Nat → DataW H) (X : Nat → α) (h : ∀ i, i < n → f (X i) ≤ Rows.uptoBulk (D i)) : totS f ((List.range n).map X) ≤ Rows.uptoBulkAll ((List.range n).map D) := by
  have key : ∀ (l : List Nat), (∀ i ∈ l, i < n) → totS f (l.map X) ≤ Rows.uptoBulkAll (l.map D) := by
    intro l
    induction l with
    | nil => intro _; simp [totS, Rows.uptoBulkAll]
    | cons i l ih =>
      intro hl
      have h1 := h i (hl i (by simp))
      have h2 := ih fun j hj => hl j (by simp [hj])
      simp only [List.map_cons, totS, List.sum_cons, Rows.uptoBulkAll] at h2 ⊢
      omega
  exact key _ fun i hi => List.mem_range.1 hi
theorem targets_open {H : Type} {enc : TypeId × Value → H} {W : World} {fuel : Nat} {cs : List Value} {x : DataW H × List MemPlace}
    (h : DataW.trod enc Tryz.prog W 0 (fun _ => true) true fuel 56 cs = some x) : ∃ (a : Option Addr) (l : List (List UInt8)) (c : Nat), cs = [.slice a l.length c] ∧ TSl W (.slice a l.length c) l ∧ totS szT l ≤ Rows.uptoBulk x.1 ∧ l.length ≤ c := by
  have cs1 : Tryz.prog.cellsOf 9 = 1 := by kernel_rfl
  rcases Go.Deep.open_strs Tryz.underlying56 Tryz.underlying9 cs1 h with ⟨hc, _⟩ | ⟨a, len, cap, m, Sx, hc, _, hl, hm, hmm, hx, hi⟩
  · subst hc
    exact ⟨none, [], 0, rfl, sl_nil W 1, by simp [totS], by simp⟩
  · subst hc
    simp only [if_true] at hmm
    have hlen : ((List.range len).map fun k => (Sx k).data.toList).length = len := by simp
    refine ⟨some a, (List.range len).map fun k => (Sx k).data.toList, cap, by rw [hlen], ?_, ?_, by rw [hlen]; exact hl⟩
    · unfold TSl
      rw [hlen]
      refine ⟨some a, cap, rfl, by simp [txtCells], ?_⟩
      by_cases h0 : len = 0
      · exact .inl h0
      · right
        obtain ⟨ab, ao, asp⟩ := a
        have hsp : asp = none := by simpa [Addr.add] using World.cell?_spot (hi 0 (by omega)).1
        subst hsp
        refine ⟨ab, ao, rfl, fun j u hu => ?_⟩
        have hj : j < len := by
          have := (List.getElem?_eq_some_iff.1 hu).1
          simpa [txtCells] using this
        have g := (hi j (by omega)).1
        rw [show (⟨ab, ao, none⟩ : Addr).add j = ⟨ab, ao + j, none⟩ by unfold Addr.add; split <;> simp <;> omega] at g
        rw [g]
        rw [txtCells, List.getElem?_map, List.getElem?_map, List.getElem?_range hj] at hu
        simp only [Option.map_some, Option.some.injEq] at hu
        rw [← hu, bs_data]
    · have h1 := bulkMap szT len (fun i => (.lit (.string (Sx i).data.toList) : DataW H)) (fun i => (Sx i).data.toList) (fun i _ => by simp only [szT, Rows.uptoBulk]; omega)
      rw [hx]
      simp only [Rows.uptoBulk]
      omega
def intB4 : Value → Int | .int _ i => i | _ => 0
theorem portals_open {H : Type} {enc : TypeId × Value → H} {W : World} {fuel : Nat} {cs : List Value} {x : DataW H × List MemPlace}
    (h : DataW.trod enc Tryz.prog W 0 (fun _ => true) true fuel 57 cs = some x) : ∃ (a : Option Addr) (l : GL) (c : Nat), cs = [.slice a l.length c] ∧ GSl W (.slice a l.length c) l ∧ totS szG l ≤ Rows.uptoBulk x.1 ∧
      ∀ k, -9223372036854775808 ≤ (l.getD k ([], 0)).2 ∧ (l.getD k ([], 0)).2 ≤ 9223372036854775807 := by
  have cs1 : Tryz.prog.cellsOf 9 = 1 := by kernel_rfl
  have ci1 : Tryz.prog.cellsOf 3 = 1 := by kernel_rfl
  rcases Go.Deep.open_slice_pairs Tryz.underlying57 Tryz.underlying140 (by kernel_rfl) rfl rfl cs1 ci1 h with ⟨hc, _⟩ | ⟨a, len, cap, m, n, V0, V1, D0, D1, P0, P1, hc, _, hl, hm, hmm, hx, hi⟩
  · subst hc
    exact ⟨none, [], 0, rfl, sl_nil W 2, by simp [totS], by intro k; simp⟩
  · subst hc
    simp only [if_true] at hmm
    have hi' : ∀ k, k < len → W.cell? (a.add (k * 2)) = some (poF (strB2 (V0 k), intB4 (V1 k))) ∧ W.cell? (a.add (k * 2 + 1)) = some (poG (strB2 (V0 k), intB4 (V1 k))) ∧ szG (strB2 (V0 k), intB4 (V1 k)) ≤ Rows.uptoBulk (.agg [D0 k, D1 k]) ∧ (-9223372036854775808 ≤ intB4 (V1 k) ∧ intB4 (V1 k) ≤ 9223372036854775807) := by
      intro k hk
      obtain ⟨g0, g1, d0, d1⟩ := hi k (by omega)
      obtain ⟨s, e0, f0, _⟩ := DataW.trod_string Tryz.underlying9 d0
      obtain ⟨z, e1, f1, w1⟩ := DataW.trod_int Tryz.underlying3 d1
      simp only [List.cons.injEq, and_true] at e0 e1
      rw [e0] at g0; rw [e1] at g1
      have f0' : D0 k = .lit (.string s.data.toList) := congrArg Prod.fst f0
      simp only [e0, e1, strB2, intB4, poF, poG, szG, bs_data]
      refine ⟨g0, g1, ?_, bounds_i64 w1⟩
      rw [f0']
      simp only [Rows.uptoBulk, Rows.uptoBulkAll]
      omega
    have hlen : ((List.range len).map fun k => (strB2 (V0 k), intB4 (V1 k))).length = len := by simp
    refine ⟨some a, (List.range len).map fun k => (strB2 (V0 k), intB4 (V1 k)), cap, by rw [hlen], ?_, ?_, ?_⟩
    · have := sl2_of_cells (F := poF) (G := poG) (cap := cap) (fun k => (strB2 (V0 k), intB4 (V1 k))) (fun k hk => ⟨(hi' k hk).1, (hi' k hk).2.1⟩)
      unfold GSl
      rw [hlen] at this ⊢
      exact this
    · have h1 := bulkMap szG len (fun i => (.agg [D0 i, D1 i] : DataW H)) (fun k => (strB2 (V0 k), intB4 (V1 k))) (fun i hi => (hi' i hi).2.2.1)
      rw [hx]
      simp only [Rows.uptoBulk]
      omega
    · intro k
      by_cases hk : k < len
      · rw [List.getD, List.getElem?_map, List.getElem?_range hk]
        exact (hi' k hk).2.2.2
      · rw [List.getD, List.getElem?_eq_none (by simp; omega)]; simp
theorem pairsB_open {H : Type} {enc : TypeId × Value → H} {W : World} {fuel : Nat} {T E : TypeId} {F : Array Field} {cs : List Value} {x : DataW H × List MemPlace}
    (hT : Tryz.prog.underlying T = some (.slice E)) (hE : Tryz.prog.underlying E = some (.struct F)) {f0 f1 : Field} (hF : F = #[f0, f1]) (ce : Tryz.prog.cellsOf E = 2) (o0 : f0.offset = 0) (o1 : f1.offset = 1)
    (t0 : f0.type = 9) (t1 : f1.type = 9)
    (h : DataW.trod enc Tryz.prog W 0 (fun _ => true) true fuel T cs = some x) : ∃ (a : Option Addr) (l : PL) (c : Nat), cs = [.slice a l.length c] ∧ PSl W (.slice a l.length c) l ∧ totS szP l ≤ Rows.uptoBulk x.1 ∧ l.length ≤ c := by
  subst hF
  have cs1 : Tryz.prog.cellsOf 9 = 1 := by kernel_rfl
  rcases Go.Deep.open_slice_pairs hT hE ce o0 o1 (by rw [t0]; exact cs1) (by rw [t1]; exact cs1) h with ⟨hc, _⟩ | ⟨a, len, cap, m, n, V0, V1, D0, D1, P0, P1, hc, _, hl, hm, hmm, hx, hi⟩
  · subst hc
    exact ⟨none, [], 0, rfl, psl_nil W, by simp [totS], by simp⟩
  · subst hc
    simp only [if_true] at hmm
    have hi' : ∀ k, k < len → W.cell? (a.add (k * 2)) = some (.string (bs (strB2 (V0 k)))) ∧ W.cell? (a.add (k * 2 + 1)) = some (.string (bs (strB2 (V1 k)))) ∧ szP (strB2 (V0 k), strB2 (V1 k)) ≤ Rows.uptoBulk (.agg [D0 k, D1 k]) := by
      intro k hk
      obtain ⟨g0, g1, d0, d1⟩ := hi k (by omega)
      rw [t0] at d0; rw [t1] at d1
      obtain ⟨s, e0, f0, _⟩ := DataW.trod_string Tryz.underlying9 d0
      obtain ⟨s', e1, f1, _⟩ := DataW.trod_string Tryz.underlying9 d1
      simp only [List.cons.injEq, and_true] at e0 e1
      rw [e0] at g0; rw [e1] at g1
      have f0' : D0 k = .lit (.string s.data.toList) := congrArg Prod.fst f0
      have f1' : D1 k = .lit (.string s'.data.toList) := congrArg Prod.fst f1
      simp only [e0, e1, strB2, szP, bs_data]
      refine ⟨g0, g1, ?_⟩
      rw [f0', f1']
      simp only [Rows.uptoBulk, Rows.uptoBulkAll]
      omega
    have hlen : ((List.range len).map fun k => (strB2 (V0 k), strB2 (V1 k))).length = len := by simp
    refine ⟨some a, (List.range len).map fun k => (strB2 (V0 k), strB2 (V1 k)), cap, by rw [hlen], ?_, ?_, by rw [hlen]; exact hl⟩
    · have := sl2_of_cells (F := fun x : List UInt8 × List UInt8 => .string (bs x.1)) (G := fun x => .string (bs x.2)) (cap := cap) (fun k => (strB2 (V0 k), strB2 (V1 k))) (fun k hk => ⟨(hi' k hk).1, (hi' k hk).2.1⟩)
      unfold PSl
      rw [hlen] at this ⊢
      exact this
    · have h1 := bulkMap szP len (fun i => (.agg [D0 i, D1 i] : DataW H)) (fun k => (strB2 (V0 k), strB2 (V1 k))) (fun i hi => (hi' i hi).2.2)
      rw [hx]
      simp only [Rows.uptoBulk]
      omega
theorem array7 {α : Type} {cs : Array α} (h : cs.size = 7) : ∃ c0 c1 c2 c3 c4 c5 c6, cs = #[c0, c1, c2, c3, c4, c5, c6] := by
  obtain ⟨l⟩ := cs
  match l, h with
  | [c0, c1, c2, c3, c4, c5, c6], _ => exact ⟨c0, c1, c2, c3, c4, c5, c6, rfl⟩
theorem conf_open {H : Type} {enc : TypeId × Value → H} {W : World} {r : Reach} {b0 : Nat} {v : Value} {d : DataW H} {p : List MemPlace}
    (hv : Value.okWide Tryz.prog W r b0 63 v) (h : DataW.Trod enc Tryz.prog W 0 (fun _ => true) true 63 v d p) (hb : Rows.uptoBulk d ≤ 1048576) :
    ∃ ta ga ua oa tc gc uc oc ts gs us sn ss lim own, v = confV (.slice ta (List.length ts) tc) (.slice ga (List.length gs) gc) (.slice ua (List.length us) uc) (.slice oa (List.length own) oc) sn ss lim ∧
      ConfIn W ts gs us sn ss lim own (.slice ta (List.length ts) tc) (.slice ga (List.length gs) gc) (.slice ua (List.length us) uc) (.slice oa (List.length own) oc) := by
  obtain ⟨cs, rfl, hsz⟩ := okWide_struct Tryz.underlying63 hv
  have c7 : Tryz.prog.cellsOf 63 = 7 := by kernel_rfl
  have ct : Tryz.prog.cellsOf 56 = 1 := by kernel_rfl
  have cg : Tryz.prog.cellsOf 57 = 1 := by kernel_rfl
  have cu : Tryz.prog.cellsOf 58 = 1 := by kernel_rfl
  have co : Tryz.prog.cellsOf 61 = 1 := by kernel_rfl
  have cp : Tryz.prog.cellsOf 60 = 2 := by kernel_rfl
  have ci : Tryz.prog.cellsOf 3 = 1 := by kernel_rfl
  have cs1 : Tryz.prog.cellsOf 9 = 1 := by kernel_rfl
  obtain ⟨c0, c1, c2, c3, c4, c5, c6, rfl⟩ := array7 (hsz.trans c7)
  obtain ⟨fuel, hf⟩ := h
  obtain ⟨xs, n, _, hx, hl, hlen, hfs⟩ := DataW.trod_struct Tryz.underlying63 hf
  match xs, hlen with
  | [y0, y1, y2, y3, y4, y5], _ =>
    have h0 := hfs 0 _ rfl
    have h1 := hfs 1 _ rfl
    have h2 := hfs 2 _ rfl
    have h3 := hfs 3 _ rfl
    have h4 := hfs 4 _ rfl
    have h5 := hfs 5 _ rfl
    simp [ct, cg, cu, co, cp, ci, Value.cells] at h0 h1 h2 h3 h4 h5
    obtain ⟨ta, ts, tc, e0, HT, BT, KT⟩ := targets_open h0
    obtain ⟨ga, gs, gc, e1, HG, BG, KG⟩ := portals_open h1
    obtain ⟨ua, us, uc, e2, HU, BU, KU⟩ := pairsB_open Tryz.underlying58 Tryz.underlying60 rfl (by kernel_rfl) rfl rfl rfl rfl h2
    obtain ⟨z0, z1, n2, hz, _, q0, q1⟩ := trod_struct2 Tryz.underlying60 h3
    simp [cs1] at q0 q1
    obtain ⟨s0, e3, f3, _⟩ := DataW.trod_string Tryz.underlying9 q0
    obtain ⟨s1, e4, f4, _⟩ := DataW.trod_string Tryz.underlying9 q1
    obtain ⟨lim, e5, _, w5⟩ := DataW.trod_int Tryz.underlying3 h4
    obtain ⟨oa, own, oc, e6, HO, BO, KO⟩ := pairsB_open Tryz.underlying61 Tryz.underlying77 rfl (by kernel_rfl) rfl rfl rfl rfl h5
    simp only [List.cons.injEq, and_true] at e0 e1 e2 e3 e4 e5 e6
    subst e0 e1 e2 e3 e4 e5 e6
    refine ⟨ta, ga, ua, oa, tc, gc, uc, oc, ts, gs, us, s0.data.toList, s1.data.toList, lim, own, ?_, ⟨HT, HG, HU, HO, ?_, ?_, KG, ?_, bounds_i64 w5, ?_⟩⟩
    · unfold confV; rw [bs_data, bs_data]
    · have f3' : z0.1 = .lit (.string s0.data.toList) := congrArg Prod.fst f3
      have f4' : z1.1 = .lit (.string s1.data.toList) := congrArg Prod.fst f4
      have hd : d = .agg [y0.1, y1.1, y2.1, y3.1, y4.1, y5.1] := by simpa using congrArg Prod.fst hx
      have hy3 : y3.1 = .agg [z0.1, z1.1] := by rw [hz]
      rw [hd, hy3, f3', f4'] at hb
      simp only [Rows.uptoBulk, Rows.uptoBulkAll] at hb
      omega
    · intro a c e; cases e; exact KO
    · intro a c e; cases e; exact KU
    · intro a c e; cases e; exact KT
end Go.Proofs.YtfeenkofnbefaaaGreatDoor
