/- nego.New of both where nothing is known of sizes; how much comes of offers. -/
import Derived.Test.YtbimlijhgeajjaaGreatDoorResultR
import Derived.Test.YtbimlijhgeajjaaGreatDoorNegoAnsR
import Derived.Test.YtbimlijhgeajjaaGreatDoorGhost
import Derived.Test.YtbimlijhgeajjaaGreatDoorHeadRight
import Derived.Deep.QuietTactic
import Derived.BigQuiet
set_option linter.unusedSectionVars false
set_option linter.unusedSimpArgs false
set_option linter.unusedVariables false
namespace Go.Proofs.YtbimlijhgeajjaaGreatDoor
open Go Go.RowKit
set_option linter.unusedVariables false
set_option linter.unusedSectionVars false
set_option linter.unusedSimpArgs false
set_option maxRecDepth 100000
theorem pairsRG_good : ∀ (l : PL) (i : Nat), (pairsRG l i).1 = 0 → ∀ x ∈ l, isKey x.1 = true ∧ isValue x.2 = true
  | [], _, _, x, hx => by cases hx
  | p :: l, i, h, x, hx => by
    rw [pairsRG] at h
    split at h
    · simp at h
    · rename_i h1
      split at h
      · simp at h
      · rename_i h2
        rcases List.mem_cons.1 hx with rfl | hx
        · exact ⟨by simpa using h1, by simpa using h2⟩
        · exact pairsRG_good l (i + 1) h x hx
theorem pairsR_good {l : PL} (h : (pairsR l).1 = 0) : l.length ≤ 60 ∧ ∀ k, (l.getD k ([], [])).2.length ≤ 255 := by
  unfold pairsR at h
  split at h
  · simp at h
  · rename_i h60
    refine ⟨by omega, fun k => ?_⟩
    rcases Nat.lt_or_ge k l.length with hk | hk
    · have := (pairsRG_good l 0 h (l.getD k ([], [])) (by rw [List.getD, List.getElem?_eq_getElem hk]; exact List.getElem_mem hk)).2
      unfold isValue at this
      rw [Bool.and_eq_true, decide_eq_true_eq] at this
      exact this.2
    · rw [List.getD, List.getElem?_eq_none hk]; simp
section
variable (v : Value) (l : PL) (w : World) (h : PSl w v l) (hbd : PBd l) (hg : EType w)
include h hbd hg
theorem new_all (hcap : ∀ a c, v = .slice a l.length c → l.length ≤ c) (hT : AS w) (hev : EV w) : Calls Tryz.prog 6 #[v] w fun e w' => NegoPost l w e w' := by
  by_cases hp0 : (pairsR l).1 ≠ 0
  · have cp := hid (pairsRight_any v l w h hbd)
    unfold PRightPost at cp
    have HE := hid (negoP_pairs l hp0)
    go_enter Tryz.func6, Tryz.ntmps6
    go_wp2_with fail
    refine cp.out.mono ?_
    rintro e w1 ⟨⟨er, rfl, her⟩, hb1⟩
    obtain ⟨T, x, rfl⟩ := errOf_pos her hp0
    have hp1 := hp0
    clear hp1
    go_wp2
    go_ret2
    refine ⟨⟨_, _, rfl, by rw [HE.out]; exact her, fun _ => rfl, fun h0 => absurd (by rw [HE.out] at h0; exact h0) hp0⟩, hb1⟩
  · have hgd := pairsR_good (Classical.byContradiction hp0)
    exact new_any v l w h hbd (by omega) hcap (fun k => by have := hgd.2 k; omega) hg hT hev
theorem rnew_all (hP : PT w) : Calls Tryz.prog 5 #[v] w fun e w' => RNegoPost v l w e w' := by
  by_cases hp0 : (pairsR l).1 ≠ 0
  · have hA := (Below.refl w.heap.size w).alloc (Nat.le_refl _) (.cells #[.int .i64 0, .int .i64 0] 34)
    have F0 : ResF w.heap.size (w.alloc (.cells #[.int .i64 0, .int .i64 0] 34)) := heap_alloc_new _ _
    have cp := hid (rpairsRight_any v l _ (h.below hA) hbd)
    unfold PRightRPost faultV at cp
    have cis := fun k pl W => hid (faultIs_any k pl W)
    unfold faultV at cis
    have HF := hid F0; have HA := hid hA
    clear F0 hA
    go_enter Tryz.func5, Tryz.ntmps5
    go_wp2_with fail
    refine cp.out.mono ?_
    rintro e w1 ⟨rfl, hb1⟩
    have F1 := HF.out.below hb1
    have b1 := HA.out.trans (hb1.mono HA.out.size)
    have hp1 := F1.lt
    have bB := b1.alloc b1.size (.cells #[.int .i64 ((pairsR l).1 : Nat), .int .i64 (pairsR l).2] 34)
    have F2 : ResF w.heap.size (w1.alloc (.cells #[.int .i64 ((pairsR l).1 : Nat), .int .i64 (pairsR l).2] 34)) := F1.below ((Below.refl _ _).alloc (Nat.le_refl _) _)
    have p0 : (w1.alloc (.cells #[.int .i64 ((pairsR l).1 : Nat), .int .i64 (pairsR l).2] 34)).cell? ⟨w1.heap.size, 0, none⟩ = some (.int .i64 ((pairsR l).1 : Nat)) := by simp
    have p1 : (w1.alloc (.cells #[.int .i64 ((pairsR l).1 : Nat), .int .i64 (pairsR l).2] 34)).cell? ⟨w1.heap.size, 1, none⟩ = some (.int .i64 (pairsR l).2) := by simp
    go_wp2_with fail
    refine (cis _ _ _).out.mono ?_
    rintro e w2 ⟨rfl, hb2⟩
    have F3 := F2.below hb2
    have b2 := bB.trans (hb2.mono bB.size)
    have p0 := (hb2.cell (p := ⟨w1.heap.size, 0, none⟩) (by simp)).trans p0
    have p1 := (hb2.cell (p := ⟨w1.heap.size, 1, none⟩) (by simp)).trans p1
    have HE := hid (negoP_pairs l hp0)
    rw [decide_eq_false hp0]
    have q0 := F3.c0
    have q1 := F3.c1
    have q2 := F3.f0
    have q3 := F3.f1
    go_wp2
    go_still_tail 2, (by kernel_rfl)
    change wpList _ _ _ _ _ w2.drew
    go_wp2
    refine bodyPost_ret (v := .tuple #[.pointer none, .agg #[.int .i64 ((pairsR l).1 : Nat), .int .i64 (pairsR l).2]]) (by simp [results, Tryz.results5, go_sem, q0, q1]) rfl ?_
    refine ⟨⟨none, by rw [HE.out]; rfl, fun _ => rfl, fun h0 => absurd (by rw [HE.out] at h0; exact h0) hp0⟩, (b2.drew.setCell (p := ⟨w.heap.size, 0, none⟩) (Nat.le_refl _) _).setCell (p := ⟨w.heap.size, 1, none⟩) (Nat.le_refl _) _⟩
  · have hgd := pairsR_good (Classical.byContradiction hp0)
    exact rnew_any v l w h hbd (by omega) (fun k => by have := hgd.2 k; omega) hP
end
theorem recP_bd {r : PL} {x : List UInt8 × List UInt8} {is : List UInt8} {M : Nat} (hr : ∀ y ∈ r, y.1.length ≤ M) (hx : x.1.length ≤ M) : (recP r x is).length ≤ r.length + 1 ∧ ∀ y ∈ recP r x is, y.1.length ≤ M := by
  unfold recP
  split
  · exact ⟨by omega, hr⟩
  · refine ⟨?_, fun y hy => ?_⟩
    · have : (without r x.1).length ≤ r.length := List.length_filter_le _ _
      rw [List.length_append]; simp only [List.length_cons, List.length_nil]; omega
    · rcases List.mem_append.1 hy with hy | hy
      · exact hr y (List.mem_filter.1 hy).1
      · simp at hy; rw [hy]; exact hx
theorem ansAll_bd (mine : PL) (login disc : Bool) (M : Nat) : ∀ (l out r : PL), (∀ y ∈ l, y.1.length ≤ M) → (∀ y ∈ r, y.1.length ≤ M) →
    (ansAll mine login disc l (out, r)).1.length ≤ out.length + l.length ∧ (ansAll mine login disc l (out, r)).2.length ≤ r.length + l.length ∧ ∀ y ∈ (ansAll mine login disc l (out, r)).2, y.1.length ≤ M
  | [], out, r, hl, hr => ⟨by simp [ansAll], by simp [ansAll], by simpa [ansAll] using hr⟩
  | x :: l, out, r, hl, hr => by
    have hb := recP_bd (is := (ansP mine x login disc).2) hr (hl x (by simp))
    have ih := ansAll_bd mine login disc M l (if (ansP mine x login disc).1 = [] then out else out ++ [(x.1, (ansP mine x login disc).1)]) (recP r x (ansP mine x login disc).2) (fun y hy => hl y (by simp [hy])) hb.2
    rw [ansAll]
    have ho : (if (ansP mine x login disc).1 = [] then out else out ++ [(x.1, (ansP mine x login disc).1)]).length ≤ out.length + 1 := by split <;> simp
    simp only [List.length_cons]
    exact ⟨by omega, by omega, ih.2.2⟩
theorem outR_eq : outR = outP := rfl
theorem outP_bd (own offers rec : PL) (login disc : Bool) (M : Nat) (h1 : ∀ y ∈ offers, y.1.length ≤ M) (h2 : ∀ y ∈ rec, y.1.length ≤ M) (hr : (pairsR offers).1 = 0 → offers.length ≤ 60) :
    (outP own offers rec login disc).1.length ≤ 60 ∧ (outP own offers rec login disc).2.length ≤ rec.length + 60 ∧ ∀ y ∈ (outP own offers rec login disc).2, y.1.length ≤ M := by
  unfold outP
  split
  · rename_i h0
    have hp : (pairsR offers).1 = 0 := by
      by_cases hp : (pairsR offers).1 = 0
      · exact hp
      · rw [offP_pairs _ _ _ hp] at h0; exact h0
    have := hr hp
    have hb := ansAll_bd own login disc M offers [] rec h1 h2
    simp only [List.length_nil] at hb
    exact ⟨by omega, by omega, hb.2.2⟩
  · exact ⟨by simp, by simp, h2⟩
end Go.Proofs.YtbimlijhgeajjaaGreatDoor

namespace Go.Proofs.YtbimlijhgeajjaaGreatDoor
open Go Go.RowKit
set_option linter.unusedVariables false
set_option linter.unusedSimpArgs false
/-- what one operation brings about: a value or a store, no call -/
def OpStep (P : Program) (J : Act → World → Prop) (a : Act) (o : Oper) (w : World) : Prop :=
  match (execOp a.eval o).run P w with
  | .ok (.value v) w' => J (a.put o.dst v) w'
  | .ok .skip w' => J (a.put o.dst undef) w'
  | _ => False
theorem open_walk {F : Fence} {n : Nat} {P : Program} {ops : Array Oper} {Q : Exit → Act → World → Prop} (I : (Nat → Bool) → Act → World → Prop) (hp : planN ops = true)
    (hrun : ∀ (i : Nat) (o : Oper), ops[i]? = some o → ∀ d a w, I d a w → d i = false → (∀ e ∈ o.after, Region.binds .any e = true → d e.on = true) → (∀ f, o.about P w a.eval = some f → F.fn f) ∧ OpStep P (I (also d i)) a o w)
    (hQ : ∀ d a w, (∀ j, j < ops.size → d j = true) → I d a w → Q .normal a w) :
    ∀ (fuel : Nat) (listed : Array Bool) (a : Act) (w : World), listed.size = ops.size → I (fun j => listed.getD j false) a w → ((List.range ops.size).filter fun i => !listed.getD i true).length ≤ fuel → wpAnyIn F n P .any ops Q fuel listed a w := by
  have fin : ∀ (listed : Array Bool) (a : Act) (w : World), listed.size = ops.size → I (fun j => listed.getD j false) a w → Region.ready .any ops listed = [] → Q .normal a w := by
    intro listed a w hsz hI h0
    refine hQ _ a w (fun j hj => ?_) hI
    have hall : listed.getD j true = true := by
      cases hj : listed.getD j true with
      | true => rfl
      | false => exact absurd h0 (unlistedN hp hsz j hj)
    show listed.getD j false = true
    rw [Array.getD_eq_getD_getElem?, Array.getElem?_eq_getElem (by rw [hsz]; exact hj)] at hall ⊢
    simpa using hall
  intro fuel
  induction fuel with
  | zero =>
    intro listed a w hsz hI hc
    have h0 : (List.range ops.size).filter (fun i => !listed.getD i true) = [] := List.length_eq_zero_iff.1 (by omega)
    have hr : Region.ready .any ops listed = [] := by
      refine List.filter_eq_nil_iff.2 fun j hj => ?_
      have := List.filter_eq_nil_iff.1 h0 j hj
      simp only [Bool.not_eq_true', Bool.not_eq_false] at this
      simp [this]
    exact ⟨hr, fin listed a w hsz hI hr⟩
  | succ fuel ih =>
    intro listed a w hsz hI hc
    refine ⟨fun h0 => fin listed a w hsz hI h0, fun i hi => ?_⟩
    obtain ⟨hil, o, ho, hafter⟩ := mem_ready.1 hi
    have hP := planN_spec hp ho
    have hlt : i < ops.size := (Array.getElem?_eq_some_iff.1 ho).1
    have hwant : Region.wanted o (yielded ops a.tmps) = true := by simp [Region.wanted, hP.guard]
    unfold wpOpIn
    simp only [ho, hwant, if_true]
    have hdi : listed.getD i false = false := by
      rw [Array.getD_eq_getD_getElem?, Array.getElem?_eq_getElem (by rw [hsz]; exact hlt)] at hil ⊢
      simpa using hil
    obtain ⟨hr1, hr2⟩ := hrun i o ho _ a w hI hdi (fun e he hb => hafter e he hb)
    have hmark : (fun j => (listed.setIfInBounds i true).getD j false) = also (fun j => listed.getD j false) i := by
      funext j
      rw [getD_mark]
      unfold also
      by_cases h : i = j
      · rw [if_pos ⟨h, by rw [hsz]; exact hlt⟩, if_pos h]
      · rw [if_neg (fun e => h e.1), if_neg h]
    have hc' : ((List.range ops.size).filter fun j => !(listed.setIfInBounds i true).getD j true).length ≤ fuel := by
      have := unlisted_less (N := ops.size) hlt hil
      omega
    have next : ∀ (a' : Act) (w' : World), I (also (fun j => listed.getD j false) i) a' w' → wpAnyIn F n P .any ops Q fuel (listed.setIfInBounds i true) a' w' := by
      intro a' w' hw'
      rw [← hmark] at hw'
      exact ih _ _ _ (by rw [Array.size_setIfInBounds]; exact hsz) hw' hc'
    unfold Oper.wpIn
    rw [Oper.semAt_eq _ _ _ hP.nodefer]
    refine ⟨hr1, ?_⟩
    unfold OpStep at hr2
    split at hr2
    · rename_i v w' heq
      rw [heq]
      exact next _ w' hr2
    · rename_i w' heq
      rw [heq]
      exact next _ w' hr2
    · exact hr2.elim
theorem region_open {F : Fence} {n : Nat} {P : Program} {id : Nat} {l : List Oper} {Q : Exit → Act → World → Prop} (I : Act → (Nat → Bool) → Act → World → Prop) {a : Act} {w : World} (hm : P.follows .mixedOrders = true) (hp : planN l.toArray = true) (h0 : I a (fun _ => false) a w.drew)
    (hrun : EveryAt (fun i o => ∀ d a' w, I a d a' w → d i = false → (∀ e ∈ o.after, Region.binds .any e = true → d e.on = true) → (∀ f, o.about P w a'.eval = some f → F.fn f) ∧ OpStep P (I a (also d i)) a' o w) 0 l)
    (hQ : ∀ d a' w', (∀ j, j < l.length → d j = true) → I a d a' w' → Q .normal a' w') :
    (Code.region id l.toArray true).wpIn F n P Q a w := by
  refine wpIn_region_any hm (open_walk (I a) hp (fun i o hi => by simpa using everyAt_get hrun i o hi) (fun d a w h => hQ d a w (by simpa using h)) _ _ _ _ (by simp) ?_ ?_)
  · have e : (fun j => (Array.replicate l.toArray.size false).getD j false) = fun _ => false := by
      funext j
      rw [Array.getD_eq_getD_getElem?, Array.getElem?_replicate]
      split <;> rfl
    rw [e]; exact h0
  · exact Nat.le_trans (List.length_filter_le _ _) (by simp)
end Go.Proofs.YtbimlijhgeajjaaGreatDoor

namespace Go.Proofs.YtbimlijhgeajjaaGreatDoor
open Go Go.RowKit
set_option linter.unusedVariables false
set_option linter.unusedSectionVars false
set_option linter.unusedSimpArgs false
set_option maxRecDepth 100000
end Go.Proofs.YtbimlijhgeajjaaGreatDoor
