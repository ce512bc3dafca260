/- nego.New of both where nothing is known of sizes; how much comes of offers. -/
import Derived.Test.YtfeenkofnbefaaaGreatDoorNegoAnswer
import Derived.Test.YtfeenkofnbefaaaGreatDoorNegoAnsR
import Derived.Test.YtfeenkofnbefaaaGreatDoorNegoOps
import Derived.Test.YtfeenkofnbefaaaGreatDoorPairVal
import Derived.Test.YtfeenkofnbefaaaGreatDoorPairIn
import Derived.Deep.SlicePairs
import Derived.ChangeSlices
import Derived.Lib.SmallJoins
import Derived.Deep.QuietTactic
import Derived.BigQuiet
set_option linter.unusedSectionVars false
set_option linter.unusedSimpArgs false
set_option linter.unusedVariables false
namespace Go.Proofs.YtfeenkofnbefaaaGreatDoor
open Go Go.RowKit
set_option linter.unusedVariables false
set_option linter.unusedSectionVars false
set_option linter.unusedSimpArgs false
set_option maxRecDepth 100000
theorem pairsRG_good : ∀ (l : PL) (i : Nat), (pairsRG l i).1 = 0 → ∀ x ∈ l, isKey x.1 = true ∧ isValue x.2 = true
  | [], _, _, x, hx => by cases hx
  | p :: l, i, h, x, hx => by
    rw [pairsRG] at h
    split at h
    · simp at h
    · rename_i h1
      split at h
      · simp at h
      · rename_i h2
        rcases List.mem_cons.1 hx with rfl | hx
        · exact ⟨by simpa using h1, by simpa using h2⟩
        · exact pairsRG_good l (i + 1) h x hx
theorem pairsR_good {l : PL} (h : (pairsR l).1 = 0) : l.length ≤ 60 ∧ ∀ k, (l.getD k ([], [])).2.length ≤ 255 := by
  unfold pairsR at h
  split at h
  · simp at h
  · rename_i h60
    refine ⟨by omega, fun k => ?_⟩
    rcases Nat.lt_or_ge k l.length with hk | hk
    · have := (pairsRG_good l 0 h (l.getD k ([], [])) (by rw [List.getD, List.getElem?_eq_getElem hk]; exact List.getElem_mem hk)).2
      unfold isValue at this
      rw [Bool.and_eq_true, decide_eq_true_eq] at this
      exact this.2
    · rw [List.getD, List.getElem?_eq_none hk]; simp
section
variable (v : Value) (l : PL) (w : World) (h : PSl w v l) (hbd : PBd l) (hg : EType w)
include h hbd hg
theorem new_all (hcap : ∀ a c, v = .slice a l.length c → l.length ≤ c) (hT : AS w) (hev : EV w) : Calls Tryz.prog 28 #[v] w fun e w' => NegoPost l w e w' := by
  by_cases hp0 : (pairsR l).1 ≠ 0
  · have cp := hid (pairsRight_any v l w h hbd)
    unfold PRightPost at cp
    have HE := hid (negoP_pairs l hp0)
    go_enter Tryz.func28, Tryz.ntmps28
    go_wp2_with fail
    refine cp.out.mono ?_
    rintro e w1 ⟨⟨er, rfl, her⟩, hb1⟩
    obtain ⟨T, x, rfl⟩ := errOf_pos her hp0
    have hp1 := hp0
    clear hp1
    go_wp2
    go_ret2
    refine ⟨⟨_, _, rfl, by rw [HE.out]; exact her, fun _ => rfl, fun h0 => absurd (by rw [HE.out] at h0; exact h0) hp0⟩, hb1⟩
  · have hgd := pairsR_good (Classical.byContradiction hp0)
    exact new_any v l w h hbd (by omega) hcap (fun k => by have := hgd.2 k; omega) hg hT hev
theorem rnew_all (hP : PT w) : Calls Tryz.prog 27 #[v] w fun e w' => RNegoPost v l w e w' := by
  by_cases hp0 : (pairsR l).1 ≠ 0
  · have hA := (Below.refl w.heap.size w).alloc (Nat.le_refl _) (.cells #[.int .i64 0, .int .i64 0] 72)
    have F0 : ResF w.heap.size (w.alloc (.cells #[.int .i64 0, .int .i64 0] 72)) := heap_alloc_new _ _
    have cp := hid (rpairsRight_any v l _ (h.below hA) hbd)
    unfold PRightRPost faultV at cp
    have cis := fun k pl W => hid (faultIs_any k pl W)
    unfold faultV at cis
    have HF := hid F0; have HA := hid hA
    clear F0 hA
    go_enter Tryz.func27, Tryz.ntmps27
    go_wp2_with fail
    refine cp.out.mono ?_
    rintro e w1 ⟨rfl, hb1⟩
    have F1 := HF.out.below hb1
    have b1 := HA.out.trans (hb1.mono HA.out.size)
    have hp1 := F1.lt
    have bB := b1.alloc b1.size (.cells #[.int .i64 ((pairsR l).1 : Nat), .int .i64 (pairsR l).2] 72)
    have F2 : ResF w.heap.size (w1.alloc (.cells #[.int .i64 ((pairsR l).1 : Nat), .int .i64 (pairsR l).2] 72)) := F1.below ((Below.refl _ _).alloc (Nat.le_refl _) _)
    have p0 : (w1.alloc (.cells #[.int .i64 ((pairsR l).1 : Nat), .int .i64 (pairsR l).2] 72)).cell? ⟨w1.heap.size, 0, none⟩ = some (.int .i64 ((pairsR l).1 : Nat)) := by simp
    have p1 : (w1.alloc (.cells #[.int .i64 ((pairsR l).1 : Nat), .int .i64 (pairsR l).2] 72)).cell? ⟨w1.heap.size, 1, none⟩ = some (.int .i64 (pairsR l).2) := by simp
    go_wp2_with fail
    refine (cis _ _ _).out.mono ?_
    rintro e w2 ⟨rfl, hb2⟩
    have F3 := F2.below hb2
    have b2 := bB.trans (hb2.mono bB.size)
    have p0 := (hb2.cell (p := ⟨w1.heap.size, 0, none⟩) (by simp)).trans p0
    have p1 := (hb2.cell (p := ⟨w1.heap.size, 1, none⟩) (by simp)).trans p1
    have HE := hid (negoP_pairs l hp0)
    rw [decide_eq_false hp0]
    have q0 := F3.c0
    have q1 := F3.c1
    have q2 := F3.f0
    have q3 := F3.f1
    go_wp2
    go_still_tail 2, (by kernel_rfl)
    change wpList _ _ _ _ _ w2.drew
    go_wp2
    refine bodyPost_ret (v := .tuple #[.pointer none, .agg #[.int .i64 ((pairsR l).1 : Nat), .int .i64 (pairsR l).2]]) (by simp [results, Tryz.results27, go_sem, q0, q1]) rfl ?_
    refine ⟨⟨none, by rw [HE.out]; rfl, fun _ => rfl, fun h0 => absurd (by rw [HE.out] at h0; exact h0) hp0⟩, (b2.drew.setCell (p := ⟨w.heap.size, 0, none⟩) (Nat.le_refl _) _).setCell (p := ⟨w.heap.size, 1, none⟩) (Nat.le_refl _) _⟩
  · have hgd := pairsR_good (Classical.byContradiction hp0)
    exact rnew_any v l w h hbd (by omega) (fun k => by have := hgd.2 k; omega) hP
end
theorem recP_bd {r : PL} {x : List UInt8 × List UInt8} {is : List UInt8} {M : Nat} (hr : ∀ y ∈ r, y.1.length ≤ M) (hx : x.1.length ≤ M) : (recP r x is).length ≤ r.length + 1 ∧ ∀ y ∈ recP r x is, y.1.length ≤ M := by
  unfold recP
  split
  · exact ⟨by omega, hr⟩
  · refine ⟨?_, fun y hy => ?_⟩
    · have : (without r x.1).length ≤ r.length := List.length_filter_le _ _
      rw [List.length_append]; simp only [List.length_cons, List.length_nil]; omega
    · rcases List.mem_append.1 hy with hy | hy
      · exact hr y (List.mem_filter.1 hy).1
      · simp at hy; rw [hy]; exact hx
theorem ansAll_bd (mine : PL) (login disc : Bool) (M : Nat) : ∀ (l out r : PL), (∀ y ∈ l, y.1.length ≤ M) → (∀ y ∈ r, y.1.length ≤ M) →
    (ansAll mine login disc l (out, r)).1.length ≤ out.length + l.length ∧ (ansAll mine login disc l (out, r)).2.length ≤ r.length + l.length ∧ ∀ y ∈ (ansAll mine login disc l (out, r)).2, y.1.length ≤ M
  | [], out, r, hl, hr => ⟨by simp [ansAll], by simp [ansAll], by simpa [ansAll] using hr⟩
  | x :: l, out, r, hl, hr => by
    have hb := recP_bd (is := (ansP mine x login disc).2) hr (hl x (by simp))
    have ih := ansAll_bd mine login disc M l (if (ansP mine x login disc).1 = [] then out else out ++ [(x.1, (ansP mine x login disc).1)]) (recP r x (ansP mine x login disc).2) (fun y hy => hl y (by simp [hy])) hb.2
    rw [ansAll]
    have ho : (if (ansP mine x login disc).1 = [] then out else out ++ [(x.1, (ansP mine x login disc).1)]).length ≤ out.length + 1 := by split <;> simp
    simp only [List.length_cons]
    exact ⟨by omega, by omega, ih.2.2⟩
theorem outR_eq : outR = outP := rfl
theorem outP_bd (own offers rec : PL) (login disc : Bool) (M : Nat) (h1 : ∀ y ∈ offers, y.1.length ≤ M) (h2 : ∀ y ∈ rec, y.1.length ≤ M) (hr : (pairsR offers).1 = 0 → offers.length ≤ 60) :
    (outP own offers rec login disc).1.length ≤ 60 ∧ (outP own offers rec login disc).2.length ≤ rec.length + 60 ∧ ∀ y ∈ (outP own offers rec login disc).2, y.1.length ≤ M := by
  unfold outP
  split
  · rename_i h0
    have hp : (pairsR offers).1 = 0 := by
      by_cases hp : (pairsR offers).1 = 0
      · exact hp
      · rw [offP_pairs _ _ _ hp] at h0; exact h0
    have := hr hp
    have hb := ansAll_bd own login disc M offers [] rec h1 h2
    simp only [List.length_nil] at hb
    exact ⟨by omega, by omega, hb.2.2⟩
  · exact ⟨by simp, by simp, h2⟩
end Go.Proofs.YtfeenkofnbefaaaGreatDoor

namespace Go.Proofs.YtfeenkofnbefaaaGreatDoor
open Go Go.RowKit
set_option linter.unusedVariables false
set_option linter.unusedSectionVars false
set_option linter.unusedSimpArgs false
set_option maxRecDepth 100000
abbrev hdKey : List UInt8 := [72, 101, 97, 100, 101, 114, 68, 105, 103, 101, 115, 116]
abbrev ddKey : List UInt8 := [68, 97, 116, 97, 68, 105, 103, 101, 115, 116]
abbrev crcL : List UInt8 := [67, 82, 67, 51, 50, 67]
def digP (rec : PL) : Nat := (if ((ofP rec hdKey).1 == crcL) = true then 1 else 0) + (if ((ofP rec ddKey).1 == crcL) = true then 2 else 0)
theorem ehd : (⟨#[72, 101, 97, 100, 101, 114, 68, 105, 103, 101, 115, 116]⟩ : ByteArray) = bs hdKey := rfl
theorem edd : (⟨#[68, 97, 116, 97, 68, 105, 103, 101, 115, 116]⟩ : ByteArray) = bs ddKey := rfl
theorem ecrc : (⟨#[67, 82, 67, 51, 50, 67]⟩ : ByteArray) = bs crcL := rfl
section
variable (g : Nat) (ov rv : Value) (rec : PL) (w : World) (h : PSl w rv rec) (hn : rec.length ≤ 1048576)
include h hn
theorem nRecord_any (hb : Blk w g 159 #[ov, rv]) : Calls Tryz.prog 32 #[.pointer (some ⟨g, 0, none⟩)] w fun e w' => (∃ v', e = .returned v' ∧ w'.ownsRow w.heap.size 77 2 v' rec.length (pairCells rec)) ∧ Below w.heap.size w w' := by
  have cc := hid (clone_any rv rec w h hn)
  have n1 := hb.cell 1
  simp only [List.getElem?_toArray, List.getElem?_cons_zero, List.getElem?_cons_succ] at n1
  clear hb
  go_enter Tryz.func32, Tryz.ntmps32
  go_wp2_with fail
  refine cc.out.mono ?_
  rintro e w1 ⟨⟨v', rfl, hv⟩, hb1⟩
  have HV := hid hv
  clear hv
  go_wp2
  go_ret
  exact ⟨⟨_, rfl, HV.out⟩, hb1⟩
set_option maxHeartbeats 4000000 in
theorem nDigests_any (hb : Blk w g 159 #[ov, rv]) (hT : AS w) : Calls Tryz.prog 33 #[.pointer (some ⟨g, 0, none⟩)] w fun e w' => e = .returned (.int .i64 (digP rec : Nat)) ∧ Below w.heap.size w w' := by
  have c1 := hid (nValue_any g ov rv rec hdKey w hb (by simp) hT h (by omega))
  have c2 := fun W (hq : Below w.heap.size w W) => hid (nValue_any g ov rv rec ddKey W (hb.below hq) (by simp) (hT.below hq (Nat.le_refl _)) (h.below hq) (by omega))
  have HD := hid (show digP rec = (if ((ofP rec hdKey).1 == crcL) = true then 1 else 0) + (if ((ofP rec ddKey).1 == crcL) = true then 2 else 0) from rfl)
  generalize digP rec = dg at *
  generalize ofP rec hdKey = q1 at *
  generalize ofP rec ddKey = q2 at *
  obtain ⟨a1, a2⟩ := q1
  obtain ⟨b1, b2⟩ := q2
  simp only at *
  have hi0 := idxS0
  have hi1 := idxS1
  have e1 := ehd
  have e2 := edd
  have e3 := ecrc
  clear hb h hn hT
  cases h1 : (a1 == crcL) <;> cases h2 : (b1 == crcL)
  all_goals
    rw [h1, h2] at HD
    go_enter Tryz.func33, Tryz.ntmps33
    go_wp2
    refine wp_loop_rounds 3 ?_
    rw [rounds_succ]
    go_wp2_with fail
    refine c1.out.mono ?_
    rintro e w1 ⟨rfl, hb1⟩
    go_wp2
    rw [rounds_succ]
    go_wp2_with fail
    refine (c2 _ hb1).out.mono ?_
    rintro e w2 ⟨rfl, hb2⟩
    have b2 := hb1.trans (hb2.mono hb1.size)
    go_wp2
    rw [rounds_succ]
    go_wp2
    go_ret
    exact ⟨by rw [HD.out]; rfl, b2⟩
theorem rDigests_any (hb : Blk w g 95 #[ov, rv]) : Calls Tryz.prog 34 #[.pointer (some ⟨g, 0, none⟩)] w fun e w' => e = .returned (.int .i64 (digP rec : Nat)) ∧ Below w.heap.size w w' := by
  have c1 := hid (rValue_any g ov rv hdKey w hb (by simp) rec h (by omega))
  have c2 := fun W (hq : Below w.heap.size w W) => hid (rValue_any g ov rv ddKey W (hb.below hq) (by simp) rec (h.below hq) (by omega))
  have HD := hid (show digP rec = (if ((ofP rec hdKey).1 == crcL) = true then 1 else 0) + (if ((ofP rec ddKey).1 == crcL) = true then 2 else 0) from rfl)
  generalize digP rec = dg at *
  generalize ofP rec hdKey = q1 at *
  generalize ofP rec ddKey = q2 at *
  obtain ⟨a1, a2⟩ := q1
  obtain ⟨b1, b2⟩ := q2
  simp only at *
  have e1 := ehd
  have e2 := edd
  have e3 := ecrc
  clear hb h hn
  cases h1 : (a1 == crcL) <;> cases h2 : (b1 == crcL)
  all_goals
    rw [h1, h2] at HD
    go_enter Tryz.func34, Tryz.ntmps34
    go_wp2_with fail
    refine c1.out.mono ?_
    rintro e w1 ⟨rfl, hb1⟩
    go_wp2_with fail
    refine (c2 _ hb1).out.mono ?_
    rintro e w2 ⟨rfl, hb2⟩
    have b2 := hb1.trans (hb2.mono hb1.size)
    go_wp2
    go_ret
    exact ⟨by rw [HD.out]; rfl, b2⟩
end
end Go.Proofs.YtfeenkofnbefaaaGreatDoor

namespace Go.Proofs.YtfeenkofnbefaaaGreatDoor
open Go Go.RowKit Go.ChangeShapes Go.WideShapes Go.Joins
set_option linter.unusedVariables false
set_option linter.unusedSectionVars false
set_option linter.unusedSimpArgs false
set_option maxRecDepth 100000
theorem pairsC_open {H : Type} {enc : TypeId × Value → H} {W : World} {fuel : Nat} {a0 : Option Addr} {len cap : Nat} {x : DataW H × List MemPlace}
    (h : DataW.trod enc Tryz.prog W 0 (fun _ => true) true fuel 61 (Value.slice a0 len cap).cells.toList = some x) : ∃ l, PSl W (.slice a0 len cap) l ∧ PBd l ∧ len = l.length ∧ len ≤ cap := by
  obtain ⟨l, h1, h2⟩ := psl_of_trod Tryz.underlying61 Tryz.underlying77 rfl (by kernel_rfl) rfl rfl rfl rfl h
  have h3 := h1
  obtain ⟨a', c', hv, _, _⟩ := h3
  cases hv
  refine ⟨l, h1, h2, rfl, ?_⟩
  generalize hL : l.length = L at *
  clear hL h1
  rcases Go.Deep.open_slice Tryz.underlying61 h with ⟨hc, _⟩ | ⟨a, n, c, m, q, D, Pl, hc, _, hl, _⟩
  · simp [Value.cells] at hc
    obtain ⟨_, h5, h6⟩ := hc
    omega
  · simp [Value.cells] at hc
    obtain ⟨_, h5, h6⟩ := hc
    omega
theorem pairsD_open {H : Type} {enc : TypeId × Value → H} {W : World} {fuel : Nat} {a0 : Option Addr} {len cap : Nat} {x : DataW H × List MemPlace}
    (h : DataW.trod enc Tryz.prog W 0 (fun _ => true) true fuel 61 (Value.slice a0 len cap).cells.toList = some x) : ∃ l, PSl W (.slice a0 len cap) l ∧ PBd l ∧ (∀ a c, Value.slice a0 len cap = .slice a l.length c → l.length ≤ c) := by
  obtain ⟨l, h1, h2, h3, h4⟩ := pairsC_open h
  exact ⟨l, h1, h2, fun a c e => by cases e; exact h4⟩
/-- a round: where its offers lie, what they are, of a login, of a discovery -/
structure RD where
  a : Option Addr
  c : Nat
  o : PL
  l : Bool
  d : Bool
def RdIn (w : World) (x : RD) : Prop := PSl w (.slice x.a x.o.length x.c) x.o ∧ PBd x.o ∧ x.o.length ≤ x.c
def RdSl (w : World) (v : Value) (l : List RD) : Prop := ∃ A c, v = .slice A l.length c ∧ l.length ≤ 9223372036854775807 ∧ (l.length = 0 ∨ ∃ b o, A = some ⟨b, o, none⟩ ∧ ∀ k x, l[k]? = some x →
  w.cell? ⟨b, o + k * 3, none⟩ = some (.slice x.a x.o.length x.c) ∧ w.cell? ⟨b, o + k * 3 + 1, none⟩ = some (.bool x.l) ∧ w.cell? ⟨b, o + k * 3 + 2, none⟩ = some (.bool x.d) ∧ RdIn w x)
theorem rounds_open {H : Type} {enc : TypeId × Value → H} {W : World} {fuel : Nat} {a0 : Option Addr} {len cap : Nat} {x : DataW H × List MemPlace}
    (h : DataW.trod enc Tryz.prog W 0 (fun _ => true) true fuel 79 (Value.slice a0 len cap).cells.toList = some x) : ∃ l, RdSl W (.slice a0 len cap) l := by
  have ce : Tryz.prog.cellsOf 82 = 3 := by kernel_rfl
  have cp : Tryz.prog.cellsOf 61 = 1 := by kernel_rfl
  have cb : Tryz.prog.cellsOf 4 = 1 := by kernel_rfl
  rcases Go.Deep.open_slice Tryz.underlying79 h with ⟨hc, _⟩ | ⟨a, len', cap', m, n, D, Pl, hc, _, hl, hm, hmm, hx, hi⟩
  · simp [Value.cells] at hc
    obtain ⟨rfl, rfl, rfl⟩ := hc
    exact ⟨[], none, 0, rfl, by simp, .inl rfl⟩
  · simp [Value.cells] at hc
    obtain ⟨rfl, rfl, rfl⟩ := hc
    simp only [if_true] at hmm
    have hi' : ∀ k, k < len → ∃ y : RD, W.cell? (a.add (k * 3)) = some (.slice y.a y.o.length y.c) ∧ W.cell? (a.add (k * 3 + 1)) = some (.bool y.l) ∧ W.cell? (a.add (k * 3 + 2)) = some (.bool y.d) ∧ RdIn W y := by
      intro k hk
      obtain ⟨cs', h1, h2⟩ := hi k (by omega)
      rw [ce] at h1
      obtain ⟨_, hlen, hcell⟩ := World.cells?_some h1
      obtain ⟨xs, j, hj, hxy, _, hxl, hf⟩ := DataW.trod_struct Tryz.underlying82 h2
      match xs, hxl, cs', hlen with
      | [y0, y1, y2], _, [v0, v1, v2], _ =>
        have g0 := hf 0 _ rfl
        have g1 := hf 1 _ rfl
        have g2 := hf 2 _ rfl
        simp [cp, cb] at g0 g1 g2
        have e0 := hcell 0 (by omega)
        have e1 := hcell 1 (by omega)
        have e2 := hcell 2 (by omega)
        rw [Go.Deep.add_add] at e0 e1 e2
        simp at e0 e1 e2
        obtain ⟨pa, pl, pc, q0⟩ := slice_form Tryz.underlying61 g0
        simp only [List.cons.injEq, and_true] at q0
        subst q0
        obtain ⟨o, po, pb, rfl, pcap⟩ := pairsC_open (a0 := pa) (len := pl) (cap := pc) (by simpa [Value.cells] using g0)
        obtain ⟨b1, q1, _⟩ := DataW.trod_bool Tryz.underlying4 g1
        obtain ⟨b2, q2, _⟩ := DataW.trod_bool Tryz.underlying4 g2
        simp only [List.cons.injEq, and_true] at q1 q2
        subst q1 q2
        exact ⟨⟨pa, pc, o, b1, b2⟩, e0, e1, e2, po, pb, pcap⟩
    let X : Nat → RD := fun k => if hk : k < len then (hi' k hk).choose else ⟨none, 0, [], false, false⟩
    have hX : ∀ k, k < len → W.cell? (a.add (k * 3)) = some (.slice (X k).a (X k).o.length (X k).c) ∧ W.cell? (a.add (k * 3 + 1)) = some (.bool (X k).l) ∧ W.cell? (a.add (k * 3 + 2)) = some (.bool (X k).d) ∧ RdIn W (X k) := by
      intro k hk
      simp only [X, dif_pos hk]
      exact (hi' k hk).choose_spec
    have hsp : len = 0 ∨ a.spot = none := by
      by_cases h0 : len = 0
      · exact .inl h0
      · right
        have := (hX 0 (by omega)).1
        simpa [Addr.add] using World.cell?_spot this
    refine ⟨(List.range len).map X, some a, cap, by simp, by unfold maxLen at hm; simp; omega, ?_⟩
    rcases hsp with h0 | hsp
    · left; simp [h0]
    · right
      obtain ⟨ab, ao, asp⟩ := a
      have hsp : asp = none := hsp
      subst hsp
      refine ⟨ab, ao, rfl, fun k x hx => ?_⟩
      have hk : k < len := by
        have := (List.getElem?_eq_some_iff.1 hx).1
        simpa using this
      have hxx : X k = x := by
        rw [List.getElem?_map, List.getElem?_range hk] at hx
        simpa using hx
      have q := hX k hk
      rw [hxx] at q
      have ad : ∀ j, (⟨ab, ao, none⟩ : Addr).add j = ⟨ab, ao + j, none⟩ := fun j => by unfold Addr.add; split <;> simp <;> omega
      rw [ad, ad, ad] at q
      exact ⟨q.1, by rw [Nat.add_assoc]; exact q.2.1, by rw [Nat.add_assoc]; exact q.2.2.1, q.2.2.2⟩
end Go.Proofs.YtfeenkofnbefaaaGreatDoor

namespace Go.Proofs.YtfeenkofnbefaaaGreatDoor
open Go.RowKit
set_option linter.unusedVariables false
set_option maxRecDepth 100000
theorem eqPairs_true (v1 v2 : Value) (xs : PL) (w : World) (hn : xs.length ≤ 4611686018427387904) (h1 : PSl w v1 xs) (h2 : PSl w v2 xs) :
    Calls Tryz.prog 25 #[v1, v2] w fun e w' => e = .returned (.bool true) ∧ Below w.heap.size w w' := by
  obtain ⟨a1, c1, rfl, hl1, hc1⟩ := h1
  obtain ⟨a2, c2, rfl, hl2, hc2⟩ := h2
  generalize hn' : xs.length = n at *
  by_cases h0 : n = 0
  · subst h0
    clear hc1 hc2 hn'
    go_enter Tryz.func25, Tryz.ntmps25
    go_wp2
    refine wp_loop_rounds 1 ?_
    rw [rounds_succ]
    go_wp2
    go_ret
    exact ⟨rfl, Below.refl _ _⟩
  obtain ⟨b1, o1, rfl, hd1⟩ := hc1.resolve_left h0
  obtain ⟨b2, o2, rfl, hd2⟩ := hc2.resolve_left h0
  have hcell : ∀ k, k < n → (w.cell? ⟨b1, o1 + k * 2, none⟩ = some (.string (bs (xs.getD k ([], [])).1)) ∧ w.cell? ⟨b1, o1 + k * 2 + 1, none⟩ = some (.string (bs (xs.getD k ([], [])).2))) ∧
      w.cell? ⟨b2, o2 + k * 2, none⟩ = some (.string (bs (xs.getD k ([], [])).1)) ∧ w.cell? ⟨b2, o2 + k * 2 + 1, none⟩ = some (.string (bs (xs.getD k ([], [])).2)) := by
    intro k hk
    obtain ⟨e1, e2⟩ := pairCells_at xs k (by omega)
    have a := hd1 _ _ e1; have b := hd1 _ _ e2; have c := hd2 _ _ e1; have d := hd2 _ _ e2
    simp only [Nat.mul_comm k 2, Nat.add_assoc]
    exact ⟨⟨a, b⟩, c, d⟩
  have Hcell := hid hcell; clear hcell hc1 hc2 hd1 hd2 hl1 hl2 hn'
  go_enter Tryz.func25, Tryz.ntmps25
  go_wp2
  go_loopw [13] (fun i wr => ∃ k q : Nat, k ≤ n ∧ i = .int .i64 k ∧ wr = w.drewN q) (fun i _ => n - (intOf i).toNat)
  case atStart => exact ⟨0, 0, by omega, rfl, rfl⟩
  case round =>
    obtain ⟨k, q, hk, rfl, rfl⟩ := hrel
    by_cases hlt : k < n
    · obtain ⟨⟨g1, g2⟩, g3, g4⟩ := Hcell.out k hlt
      generalize xs.getD k ([], []) = s at *
      obtain ⟨s1, s2⟩ := s
      simp only at g1 g2 g3 g4
      go_wp2
      go_quiet (fail)
      go_wp2
      go_roundw
      case rel => exact ⟨k + 1, _, by omega, by go_num, rfl⟩
      case measure => simp [intOf]; omega
    · go_wp2
      go_ret
      exact ⟨rfl, below_drewN (Below.refl _ _) _⟩
end Go.Proofs.YtfeenkofnbefaaaGreatDoor

namespace Go.Proofs.YtfeenkofnbefaaaGreatDoor
open Go.RowKit
set_option linter.unusedVariables false
set_option linter.unusedSectionVars false
set_option linter.unusedSimpArgs false
set_option maxRecDepth 100000
def WideP (w : World) (e : Ending) (w' : World) : Prop := (∃ b : Bool, e = .returned (.bool b)) ∧ Below w.heap.size w w'
def RThick (l : PL) (w : World) (sum i : Value) (wr : World) : Prop :=
  ∃ (k : Nat) (m : Int), k ≤ l.length ∧ i = .int .i64 (k : Nat) ∧ sum = .int .i64 m ∧ Below w.heap.size w wr
theorem thick_any (v : Value) (l : PL) (w : World) (h : PSl w v l) (hbd : PBd l) :
    Calls Tryz.prog 26 #[v] w fun e w' => WideP w e w' := by
  obtain ⟨hn, hlen⟩ := hbd
  rcases h.open_ with ⟨rfl, a, c, rfl⟩ | ⟨h0, b, o, c, rfl, hbl, hcell⟩
  · clear h hlen
    go_enter Tryz.func26, Tryz.ntmps26
    go_wp2
    refine wp_loop_rounds 1 ?_
    rw [rounds_succ]
    go_wp2
    go_ret
    exact ⟨⟨_, rfl⟩, Below.refl _ _⟩
  clear h
  have Hcell := hid hcell; clear hcell
  have Hlen := hid hlen; clear hlen
  go_enter Tryz.func26, Tryz.ntmps26
  go_wp2
  go_loopw [3, 10] (fun sum i wr => RThick l w sum i wr) (fun _ i _ => l.length - (intOf i).toNat)
  case atStart => exact ⟨0, _, by omega, rfl, rfl, Below.refl _ _⟩
  case round =>
    obtain ⟨k, m, hk, rfl, rfl, hb⟩ := hrel
    have hB := hb.size
    by_cases hlt : k < l.length
    · obtain ⟨c0, c1⟩ := Hcell.out k hlt
      have g0 := (hb.cell (p := ⟨b, o + k * 2, none⟩) hbl).trans c0
      have g1 := (hb.cell (p := ⟨b, o + k * 2 + 1, none⟩) hbl).trans c1
      obtain ⟨hd0, hd1⟩ := Hlen.out k
      clear c0 c1
      generalize l.getD k ([], []) = x at *
      obtain ⟨x1, x2⟩ := x
      simp only at *
      go_wp2
      go_roundw
      case rel => exact ⟨k + 1, _, by omega, by go_num, rfl, hb.alloc hB _⟩
      case measure => simp [intOf]; omega
    · go_wp2
      go_ret
      exact ⟨⟨_, rfl⟩, hb⟩
end Go.Proofs.YtfeenkofnbefaaaGreatDoor
