/- A region that draws its order: what is true of its frame and the world hangs on which operations have been done. No program in sight. -/
import Derived.Test.YtfeenkofnbefaaaGreatDoorDone
set_option linter.unusedSectionVars false
set_option linter.unusedSimpArgs false
set_option linter.unusedVariables false
namespace Go.Proofs.YtfeenkofnbefaaaGreatDoor
open Go Go.RowKit
set_option linter.unusedVariables false
set_option linter.unusedSimpArgs false
/-- what one operation brings about: a value or a store, no call -/
def OpStep (P : Program) (J : Act → World → Prop) (a : Act) (o : Oper) (w : World) : Prop :=
  match (execOp a.eval o).run P w with
  | .ok (.value v) w' => J (a.put o.dst v) w'
  | .ok .skip w' => J (a.put o.dst undef) w'
  | _ => False
theorem open_walk {F : Fence} {n : Nat} {P : Program} {ops : Array Oper} {Q : Exit → Act → World → Prop} (I : (Nat → Bool) → Act → World → Prop) (hp : planN ops = true)
    (hrun : ∀ (i : Nat) (o : Oper), ops[i]? = some o → ∀ d a w, I d a w → d i = false → (∀ e ∈ o.after, Region.binds .any e = true → d e.on = true) → (∀ f, o.about P w a.eval = some f → F.fn f) ∧ OpStep P (I (also d i)) a o w)
    (hQ : ∀ d a w, (∀ j, j < ops.size → d j = true) → I d a w → Q .normal a w) :
    ∀ (fuel : Nat) (listed : Array Bool) (a : Act) (w : World), listed.size = ops.size → I (fun j => listed.getD j false) a w → ((List.range ops.size).filter fun i => !listed.getD i true).length ≤ fuel → wpAnyIn F n P .any ops Q fuel listed a w := by
  have fin : ∀ (listed : Array Bool) (a : Act) (w : World), listed.size = ops.size → I (fun j => listed.getD j false) a w → Region.ready .any ops listed = [] → Q .normal a w := by
    intro listed a w hsz hI h0
    refine hQ _ a w (fun j hj => ?_) hI
    have hall : listed.getD j true = true := by
      cases hj : listed.getD j true with
      | true => rfl
      | false => exact absurd h0 (unlistedN hp hsz j hj)
    show listed.getD j false = true
    rw [Array.getD_eq_getD_getElem?, Array.getElem?_eq_getElem (by rw [hsz]; exact hj)] at hall ⊢
    simpa using hall
  intro fuel
  induction fuel with
  | zero =>
    intro listed a w hsz hI hc
    have h0 : (List.range ops.size).filter (fun i => !listed.getD i true) = [] := List.length_eq_zero_iff.1 (by omega)
    have hr : Region.ready .any ops listed = [] := by
      refine List.filter_eq_nil_iff.2 fun j hj => ?_
      have := List.filter_eq_nil_iff.1 h0 j hj
      simp only [Bool.not_eq_true', Bool.not_eq_false] at this
      simp [this]
    exact ⟨hr, fin listed a w hsz hI hr⟩
  | succ fuel ih =>
    intro listed a w hsz hI hc
    refine ⟨fun h0 => fin listed a w hsz hI h0, fun i hi => ?_⟩
    obtain ⟨hil, o, ho, hafter⟩ := mem_ready.1 hi
    have hP := planN_spec hp ho
    have hlt : i < ops.size := (Array.getElem?_eq_some_iff.1 ho).1
    have hwant : Region.wanted o (yielded ops a.tmps) = true := by simp [Region.wanted, hP.guard]
    unfold wpOpIn
    simp only [ho, hwant, if_true]
    have hdi : listed.getD i false = false := by
      rw [Array.getD_eq_getD_getElem?, Array.getElem?_eq_getElem (by rw [hsz]; exact hlt)] at hil ⊢
      simpa using hil
    obtain ⟨hr1, hr2⟩ := hrun i o ho _ a w hI hdi (fun e he hb => hafter e he hb)
    have hmark : (fun j => (listed.setIfInBounds i true).getD j false) = also (fun j => listed.getD j false) i := by
      funext j
      rw [getD_mark]
      unfold also
      by_cases h : i = j
      · rw [if_pos ⟨h, by rw [hsz]; exact hlt⟩, if_pos h]
      · rw [if_neg (fun e => h e.1), if_neg h]
    have hc' : ((List.range ops.size).filter fun j => !(listed.setIfInBounds i true).getD j true).length ≤ fuel := by
      have := unlisted_less (N := ops.size) hlt hil
      omega
    have next : ∀ (a' : Act) (w' : World), I (also (fun j => listed.getD j false) i) a' w' → wpAnyIn F n P .any ops Q fuel (listed.setIfInBounds i true) a' w' := by
      intro a' w' hw'
      rw [← hmark] at hw'
      exact ih _ _ _ (by rw [Array.size_setIfInBounds]; exact hsz) hw' hc'
    unfold Oper.wpIn
    rw [Oper.semAt_eq _ _ _ hP.nodefer]
    refine ⟨hr1, ?_⟩
    unfold OpStep at hr2
    split at hr2
    · rename_i v w' heq
      rw [heq]
      exact next _ w' hr2
    · rename_i w' heq
      rw [heq]
      exact next _ w' hr2
    · exact hr2.elim
theorem region_open {F : Fence} {n : Nat} {P : Program} {id : Nat} {l : List Oper} {Q : Exit → Act → World → Prop} (I : Act → (Nat → Bool) → Act → World → Prop) {a : Act} {w : World} (hm : P.follows .mixedOrders = true) (hp : planN l.toArray = true) (h0 : I a (fun _ => false) a w.drew)
    (hrun : EveryAt (fun i o => ∀ d a' w, I a d a' w → d i = false → (∀ e ∈ o.after, Region.binds .any e = true → d e.on = true) → (∀ f, o.about P w a'.eval = some f → F.fn f) ∧ OpStep P (I a (also d i)) a' o w) 0 l)
    (hQ : ∀ d a' w', (∀ j, j < l.length → d j = true) → I a d a' w' → Q .normal a' w') :
    (Code.region id l.toArray true).wpIn F n P Q a w := by
  refine wpIn_region_any hm (open_walk (I a) hp (fun i o hi => by simpa using everyAt_get hrun i o hi) (fun d a w h => hQ d a w (by simpa using h)) _ _ _ _ (by simp) ?_ ?_)
  · have e : (fun j => (Array.replicate l.toArray.size false).getD j false) = fun _ => false := by
      funext j
      rw [Array.getD_eq_getD_getElem?, Array.getElem?_replicate]
      split <;> rfl
    rw [e]; exact h0
  · exact Nat.le_trans (List.length_filter_le _ _) (by simp)
end Go.Proofs.YtfeenkofnbefaaaGreatDoor
