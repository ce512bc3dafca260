/- A region that draws its order, with stores: its slots come to given values; the word on the world hangs on which operations have been done. No program in sight. -/
import Derived.Test.YtfeenkofnbefaaaGreatDoorInv
set_option linter.unusedSectionVars false
set_option linter.unusedSimpArgs false
set_option linter.unusedVariables false
namespace Go.Proofs.YtfeenkofnbefaaaGreatDoor
open Go Go.RowKit
set_option linter.unusedVariables false
set_option linter.unusedSimpArgs false
/-- these are done, and this one -/
def also (d : Nat → Bool) (i : Nat) (j : Nat) : Bool := if i = j then true else d j
structure DoneInv (ops : Array Oper) (Ctx : (Nat → Bool) → World → Prop) (aF : Act) (listed : Array Bool) (a : Act) (w : World) : Prop where
  size : listed.size = ops.size
  defers : a.defers = aF.defers
  tsize : a.tmps.size = aF.tmps.size
  vals : ∀ t : Nat, (∀ (j : Nat) oj, ops[j]? = some oj → oj.dst = some t → listed.getD j false = true) → a.eval (.tmp t) = aF.eval (.tmp t)
  ctx : Ctx (fun j => listed.getD j false) w
/-- one operation's word, of each of a list -/
def EveryAt (G : Nat → Oper → Prop) : Nat → List Oper → Prop
  | _, [] => True
  | i, o :: l => G i o ∧ EveryAt G (i + 1) l
theorem everyAt_get {G : Nat → Oper → Prop} : ∀ {l : List Oper} {k : Nat}, EveryAt G k l → ∀ (i : Nat) (o : Oper), l.toArray[i]? = some o → G (k + i) o
  | [], _, _, i, o, hi => by simp at hi
  | x :: l, k, h, i, o, hi => by
    cases i with
    | zero =>
      simp only [List.getElem?_toArray, List.getElem?_cons_zero, Option.some.injEq] at hi
      subst hi
      exact h.1
    | succ i =>
      have := everyAt_get h.2 i o (by simpa using hi)
      rwa [Nat.add_assoc, Nat.add_comm 1 i] at this
theorem done_walk {F : Fence} {n : Nat} {P : Program} {ops : Array Oper} {Q : Exit → Act → World → Prop} {Ctx : (Nat → Bool) → World → Prop} {aF : Act} (hp : planN ops = true)
    (hrun : ∀ (i : Nat) (o : Oper), ops[i]? = some o → (∀ d, o.dst = some d → d < aF.tmps.size) ∧ ∀ d w, Ctx d w → d i = false → (∀ f, o.about P w aF.eval = some f → F.fn f) ∧ OpInv F n P (Ctx (also d i)) aF o w)
    (hQ : ∀ d w, (∀ j, j < ops.size → d j = true) → Ctx d w → Q .normal aF w) :
    ∀ (fuel : Nat) (listed : Array Bool) (a : Act) (w : World), DoneInv ops Ctx aF listed a w → ((List.range ops.size).filter fun i => !listed.getD i true).length ≤ fuel → wpAnyIn F n P .any ops Q fuel listed a w := by
  have fin : ∀ (listed : Array Bool) (a : Act) (w : World), DoneInv ops Ctx aF listed a w → Region.ready .any ops listed = [] → Q .normal a w := by
    intro listed a w hI h0
    have hall : ∀ j, listed.getD j true = true := fun j => by
      cases hj : listed.getD j true with
      | true => rfl
      | false => exact absurd h0 (unlistedN hp hI.size j hj)
    have hS : ∀ t, a.eval (.tmp t) = aF.eval (.tmp t) := fun t => hI.vals t fun j oj hj hd => by
      have hlt := (Array.getElem?_eq_some_iff.1 hj).1
      have := hall j
      rw [Array.getD_eq_getD_getElem?, Array.getElem?_eq_getElem (by rw [hI.size]; exact hlt)] at this ⊢
      simpa using this
    have haF : a = aF := by
      have hsz := hI.tsize
      have ht : a.tmps = aF.tmps := by
        refine Array.ext_getElem? fun t => ?_
        have h1 := hS t
        by_cases hlt : t < aF.tmps.size
        · have hlt2 : t < a.tmps.size := by omega
          simp only [Act.eval, Array.getD_eq_getD_getElem?, Array.getElem?_eq_getElem hlt, Array.getElem?_eq_getElem hlt2, Option.getD_some] at h1
          rw [Array.getElem?_eq_getElem hlt, Array.getElem?_eq_getElem hlt2, h1]
        · rw [Array.getElem?_eq_none (by omega), Array.getElem?_eq_none (by omega)]
      have hd2 : a.defers = aF.defers := hI.defers
      cases a; cases aF
      simp only at ht hd2
      rw [ht, hd2]
    rw [haF]
    refine hQ _ w (fun j hj => ?_) hI.ctx
    have := hall j
    show listed.getD j false = true
    rw [Array.getD_eq_getD_getElem?, Array.getElem?_eq_getElem (by rw [hI.size]; exact hj)] at this ⊢
    simpa using this
  intro fuel
  induction fuel with
  | zero =>
    intro listed a w hI hc
    have h0 : (List.range ops.size).filter (fun i => !listed.getD i true) = [] := List.length_eq_zero_iff.1 (by omega)
    have hr : Region.ready .any ops listed = [] := by
      refine List.filter_eq_nil_iff.2 fun j hj => ?_
      have := List.filter_eq_nil_iff.1 h0 j hj
      simp only [Bool.not_eq_true', Bool.not_eq_false] at this
      simp [this]
    exact ⟨hr, fin listed a w hI hr⟩
  | succ fuel ih =>
    intro listed a w hI hc
    refine ⟨fun h0 => fin listed a w hI h0, fun i hi => ?_⟩
    obtain ⟨hil, o, ho, hafter⟩ := mem_ready.1 hi
    have hP := planN_spec hp ho
    have hlt : i < ops.size := (Array.getElem?_eq_some_iff.1 ho).1
    have hwant : Region.wanted o (yielded ops a.tmps) = true := by simp [Region.wanted, hP.guard]
    unfold wpOpIn
    simp only [ho, hwant, if_true]
    obtain ⟨hdlt, hr⟩ := hrun i o ho
    have hdi : listed.getD i false = false := by
      rw [Array.getD_eq_getD_getElem?, Array.getElem?_eq_getElem (by rw [hI.size]; exact hlt)] at hil ⊢
      simpa using hil
    obtain ⟨hr1, hr2⟩ := hr (fun j => listed.getD j false) w hI.ctx hdi
    have hmark : (fun j => (listed.setIfInBounds i true).getD j false) = also (fun j => listed.getD j false) i := by
      funext j
      rw [getD_mark]
      unfold also
      by_cases h : i = j
      · rw [if_pos ⟨h, by rw [hI.size]; exact hlt⟩, if_pos h]
      · rw [if_neg (fun e => h e.1), if_neg h]
    have hc' : ((List.range ops.size).filter fun j => !(listed.setIfInBounds i true).getD j true).length ≤ fuel := by
      have := unlisted_less (N := ops.size) hlt hil
      omega
    have hsame : ∀ x ∈ o.op.operands, a.eval x = aF.eval x := by
      intro x hx
      cases x with
      | tmp t =>
        exact hI.vals t fun j oj hj hd => by
          obtain ⟨e, he, hb, rfl⟩ := hP.reads t hx j oj hj hd
          exact hafter e he hb
      | _ => rfl
    have hex := execOp_congr o hP.nosel hsame
    have hab := about_congr (P := P) o w hsame
    have next : ∀ (v : Value) (w' : World), (match o.dst with | some d => v = aF.eval (.tmp d) | none => True) → Ctx (also (fun j => listed.getD j false) i) w' → wpAnyIn F n P .any ops Q fuel (listed.setIfInBounds i true) (a.put o.dst v) w' := by
      intro v w' hv hw'
      rw [← hmark] at hw'
      cases hd : o.dst with
      | none =>
        refine ih _ _ _ ⟨by rw [Array.size_setIfInBounds]; exact hI.size, hI.defers, hI.tsize, fun t ht => ?_, hw'⟩ hc'
        refine hI.vals t fun j oj hj hjd => ?_
        have h1 := ht j oj hj hjd
        rw [getD_mark, if_neg] at h1
        · exact h1
        · rintro ⟨rfl, _⟩
          rw [ho] at hj; cases hj
          rw [hd] at hjd; cases hjd
      | some d =>
        rw [hd] at hv
        simp only at hv
        have hdl : d < a.tmps.size := by rw [hI.tsize]; exact hdlt d hd
        refine ih _ _ _ ⟨by rw [Array.size_setIfInBounds]; exact hI.size, hI.defers, ?_, fun t ht => ?_, hw'⟩ hc'
        · show (a.tmps.setIfInBounds d _).size = _
          rw [Array.size_setIfInBounds, hI.tsize]
        · by_cases hdt : d = t
          · subst hdt
            show (a.tmps.setIfInBounds d v).getD d undef = _
            simp [Array.getD, hdl, hv]
          · show (a.tmps.setIfInBounds d v).getD t undef = _
            rw [Array.getD_eq_getD_getElem?, Array.getElem?_setIfInBounds, if_neg hdt, ← Array.getD_eq_getD_getElem?]
            refine hI.vals t fun j oj hj hjd => ?_
            have h1 := ht j oj hj hjd
            rw [getD_mark, if_neg] at h1
            · exact h1
            · rintro ⟨rfl, _⟩
              rw [ho] at hj; cases hj
              rw [hd] at hjd; cases hjd; exact hdt rfl
    unfold Oper.wpIn
    rw [hab, Oper.semAt_eq _ _ _ hP.nodefer, hex]
    refine ⟨hr1, ?_⟩
    unfold OpInv at hr2
    split at hr2
    · rename_i v w' heq
      rw [heq]
      exact next v w' hr2.1 hr2.2
    · rename_i w' heq
      rw [heq]
      exact next undef w' hr2.1 hr2.2
    · rename_i f args w' heq
      rw [heq]
      refine ⟨hr2.1, hr2.2.mono ?_⟩
      rintro e w'' ⟨v, rfl, hv, hw''⟩
      exact next v w'' hv hw''
    · exact hr2.elim
theorem region_done {F : Fence} {n : Nat} {P : Program} {id : Nat} {l : List Oper} {Q : Exit → Act → World → Prop} (ps : List (Nat × Value)) {aF : Act} (Ctx : (Nat → Bool) → World → Prop) {a : Act} {w : World} (haF : putAll a ps = aF) (hm : P.follows .mixedOrders = true)
    (hk : (ps.map (·.1)).all (fun t => (writes l.toArray).contains t) = true) (hp : planN l.toArray = true) (h0 : Ctx (fun _ => false) w.drew)
    (hrun : EveryAt (fun i o => (∀ d, o.dst = some d → d < aF.tmps.size) ∧ ∀ d w, Ctx d w → d i = false → (∀ f, o.about P w aF.eval = some f → F.fn f) ∧ OpInv F n P (Ctx (also d i)) aF o w) 0 l)
    (hQ : ∀ d w', (∀ j, j < l.length → d j = true) → Ctx d w' → Q .normal aF w') :
    (Code.region id l.toArray true).wpIn F n P Q a w := by
  subst haF
  refine wpIn_region_any hm (done_walk hp (fun i o hi => by simpa using everyAt_get hrun i o hi) (fun d w h => hQ d w (by simpa using h)) _ _ _ _ ⟨by simp, rfl, (putAll_size a ps).symm, fun t ht => ?_, ?_⟩ ?_)
  · have hw : t ∉ ps.map (·.1) := by
      intro h
      have := List.all_eq_true.1 hk t h
      have hw : t ∈ writes l.toArray := by simpa using this
      obtain ⟨oj, hoj, hd⟩ := List.mem_filterMap.1 hw
      obtain ⟨j, hj, rfl⟩ := List.mem_iff_getElem.1 hoj
      have := ht j _ (by simp at hj ⊢) hd
      rw [Array.getD_eq_getD_getElem?, Array.getElem?_replicate] at this
      split at this <;> simp at this
    have := putAll_get a ps t hw
    simp only [Act.eval, Array.getD_eq_getD_getElem?, this]
  · have e : (fun j => (Array.replicate l.toArray.size false).getD j false) = fun _ => false := by
      funext j
      rw [Array.getD_eq_getD_getElem?, Array.getElem?_replicate]
      split <;> rfl
    rw [e]; exact h0
  · exact Nat.le_trans (List.length_filter_le _ _) (by simp)
end Go.Proofs.YtfeenkofnbefaaaGreatDoor
