/- A region that draws its order: its slots come to given values, and a word on the world holds behind each operation, stores too. No program in sight. -/
import Derived.Test.YtbimlijhgeajjaaGreatDoorMono
set_option linter.unusedSectionVars false
set_option linter.unusedSimpArgs false
set_option linter.unusedVariables false
namespace Go.Proofs.YtbimlijhgeajjaaGreatDoor
open Go Go.RowKit
set_option linter.unusedVariables false
set_option linter.unusedSimpArgs false
/-- what the kernel checks: as planB, but an operation may have no slot -/
def planN (ops : Array Oper) : Bool :=
  (List.range ops.size).all fun i => match ops[i]? with
    | none => false
    | some o =>
      o.guard.isNone &&
      (match o.op with | .defer _ => false | .select _ _ => false | _ => true) &&
      o.after.all (fun e => !Region.binds .any e || decide (e.on < i)) &&
      (o.op.operands.toList.all fun | .tmp t => (List.range ops.size).all (fun j => match ops[j]? with | some oj => oj.dst != some t || o.after.any (fun e => Region.binds .any e && e.on == j) | none => true) | _ => true) &&
      ((List.range ops.size).all fun j => j == i || match ops[j]? with | some oj => oj.dst != o.dst || o.dst.isNone | none => true)
structure PlanNOf (ops : Array Oper) (i : Nat) (o : Oper) : Prop where
  guard : o.guard = none
  nodefer : ∀ c, o.op ≠ .defer c
  nosel : ∀ cs b, o.op ≠ .select cs b
  back : ∀ e ∈ o.after, Region.binds .any e = true → e.on < i
  reads : ∀ t, Operand.tmp t ∈ o.op.operands → ∀ j oj, ops[j]? = some oj → oj.dst = some t → ∃ e ∈ o.after, Region.binds .any e = true ∧ e.on = j
theorem planN_spec {ops : Array Oper} (h : planN ops = true) {i : Nat} {o : Oper} (hi : ops[i]? = some o) : PlanNOf ops i o := by
  have hlt : i < ops.size := (Array.getElem?_eq_some_iff.1 hi).1
  have h := List.all_eq_true.1 h i (List.mem_range.2 hlt)
  simp only [hi, Bool.and_eq_true, Bool.or_eq_true, bne_iff_ne, beq_iff_eq] at h
  obtain ⟨⟨⟨⟨h1, h2⟩, h3⟩, h5⟩, h6⟩ := h
  refine ⟨by simpa using h1, ?_, ?_, ?_, ?_⟩
  · intro c hc
    simp [hc] at h2
  · intro cs b hc
    simp [hc] at h2
  · intro e he hb
    have := Array.all_eq_true_iff_forall_mem.1 h3 e he
    simpa [hb] using this
  · intro t ht j oj hj hd
    have h := List.all_eq_true.1 h5 (.tmp t) (by simpa using ht)
    have h := List.all_eq_true.1 h j (List.mem_range.2 (Array.getElem?_eq_some_iff.1 hj).1)
    simp only [hj, hd, bne_self_eq_false, Bool.false_or] at h
    obtain ⟨k, hk, h⟩ := Array.any_eq_true.1 h
    simp only [Bool.and_eq_true, beq_iff_eq] at h
    exact ⟨o.after[k], Array.getElem_mem hk, h.1, h.2⟩
theorem unlistedN {ops : Array Oper} (hp : planN ops = true) {listed : Array Bool} (hsz : listed.size = ops.size) (k : Nat) (hk : listed.getD k true = false) : Region.ready .any ops listed ≠ [] := by
  induction k using Nat.strongRecOn with
  | _ k ih =>
    have hlt : k < ops.size := by
      rcases Nat.lt_or_ge k listed.size with h | h
      · omega
      · rw [Array.getD_eq_getD_getElem?, Array.getElem?_eq_none h] at hk
        cases hk
    by_cases hall : ∀ e ∈ (ops[k]).after, Region.binds .any e = true → listed.getD e.on false = true
    · have : k ∈ Region.ready .any ops listed := mem_ready.2 ⟨hk, ops[k], by simp [hlt], hall⟩
      intro e; rw [e] at this; cases this
    · simp only [Classical.not_forall] at hall
      obtain ⟨e, he, hb, hn⟩ := hall
      have hlt2 := (planN_spec hp (show ops[k]? = some ops[k] by simp [hlt])).back e he hb
      refine ih e.on hlt2 ?_
      have : e.on < listed.size := by omega
      rw [Array.getD_eq_getD_getElem?, Array.getElem?_eq_getElem this] at hn ⊢
      simpa using hn
/-- one operation's word -/
def OpInv (F : Fence) (n : Nat) (P : Program) (Ctx : World → Prop) (aF : Act) (o : Oper) (w : World) : Prop :=
  match (execOp aF.eval o).run P w with
  | .ok (.value v) w' => (match o.dst with | some d => v = aF.eval (.tmp d) | none => True) ∧ Ctx w'
  | .ok .skip w' => (match o.dst with | some d => undef = aF.eval (.tmp d) | none => True) ∧ Ctx w'
  | .ok (.enter f args) w' => (F.depth.isSome = true → 1 ≤ n) ∧ CallsIn F (n - 1) P f args w' (fun e w'' => ∃ v, e = .returned v ∧ (match o.dst with | some d => v = aF.eval (.tmp d) | none => True) ∧ Ctx w'')
  | _ => False
/-- one operation's word, of each of a list -/
def EveryOp (G : Oper → Prop) : List Oper → Prop
  | [] => True
  | o :: l => G o ∧ EveryOp G l
theorem everyOp_get {G : Oper → Prop} : ∀ {l : List Oper}, EveryOp G l → ∀ (i : Nat) (o : Oper), l.toArray[i]? = some o → G o
  | [], _, i, o, hi => by simp at hi
  | x :: l, h, i, o, hi => by
    cases i with
    | zero =>
      simp only [List.getElem?_toArray, List.getElem?_cons_zero, Option.some.injEq] at hi
      subst hi
      exact h.1
    | succ i => exact everyOp_get h.2 i o (by simpa using hi)
theorem inv_walk {F : Fence} {n : Nat} {P : Program} {ops : Array Oper} {Q : Exit → Act → World → Prop} {Ctx : World → Prop} {aF : Act} (hp : planN ops = true)
    (hrun : ∀ (i : Nat) (o : Oper), ops[i]? = some o → (∀ d, o.dst = some d → d < aF.tmps.size) ∧ ∀ w, Ctx w → (∀ f, o.about P w aF.eval = some f → F.fn f) ∧ OpInv F n P Ctx aF o w)
    (hQ : ∀ w, Ctx w → Q .normal aF w) :
    ∀ (fuel : Nat) (listed : Array Bool) (a : Act) (w : World), MonoInv ops (fun t v _ => v = aF.eval (.tmp t)) Ctx aF listed a w → ((List.range ops.size).filter fun i => !listed.getD i true).length ≤ fuel → wpAnyIn F n P .any ops Q fuel listed a w := by
  have fin : ∀ (listed : Array Bool) (a : Act) (w : World), MonoInv ops (fun t v _ => v = aF.eval (.tmp t)) Ctx aF listed a w → Region.ready .any ops listed = [] → Q .normal a w := by
    intro listed a w hI h0
    have hall : ∀ j, listed.getD j true = true := fun j => by
      cases hj : listed.getD j true with
      | true => rfl
      | false => exact absurd h0 (unlistedN hp hI.size j hj)
    have hS : ∀ t, a.eval (.tmp t) = aF.eval (.tmp t) := fun t => hI.vals t fun j oj hj hd => by
      have hlt := (Array.getElem?_eq_some_iff.1 hj).1
      have := hall j
      rw [Array.getD_eq_getD_getElem?, Array.getElem?_eq_getElem (by rw [hI.size]; exact hlt)] at this ⊢
      simpa using this
    have haF : a = aF := by
      have hsz := hI.tsize
      have ht : a.tmps = aF.tmps := by
        refine Array.ext_getElem? fun t => ?_
        have h1 := hS t
        by_cases hlt : t < aF.tmps.size
        · have hlt2 : t < a.tmps.size := by omega
          simp only [Act.eval, Array.getD_eq_getD_getElem?, Array.getElem?_eq_getElem hlt, Array.getElem?_eq_getElem hlt2, Option.getD_some] at h1
          rw [Array.getElem?_eq_getElem hlt, Array.getElem?_eq_getElem hlt2, h1]
        · rw [Array.getElem?_eq_none (by omega), Array.getElem?_eq_none (by omega)]
      have hd2 : a.defers = aF.defers := hI.defers
      cases a; cases aF
      simp only at ht hd2
      rw [ht, hd2]
    rw [haF]; exact hQ w hI.ctx
  intro fuel
  induction fuel with
  | zero =>
    intro listed a w hI hc
    have h0 : (List.range ops.size).filter (fun i => !listed.getD i true) = [] := List.length_eq_zero_iff.1 (by omega)
    have hr : Region.ready .any ops listed = [] := by
      refine List.filter_eq_nil_iff.2 fun j hj => ?_
      have := List.filter_eq_nil_iff.1 h0 j hj
      simp only [Bool.not_eq_true', Bool.not_eq_false] at this
      simp [this]
    exact ⟨hr, fin listed a w hI hr⟩
  | succ fuel ih =>
    intro listed a w hI hc
    refine ⟨fun h0 => fin listed a w hI h0, fun i hi => ?_⟩
    obtain ⟨hil, o, ho, hafter⟩ := mem_ready.1 hi
    have hP := planN_spec hp ho
    have hlt : i < ops.size := (Array.getElem?_eq_some_iff.1 ho).1
    have hwant : Region.wanted o (yielded ops a.tmps) = true := by simp [Region.wanted, hP.guard]
    unfold wpOpIn
    simp only [ho, hwant, if_true]
    obtain ⟨hdlt, hr⟩ := hrun i o ho
    obtain ⟨hr1, hr2⟩ := hr w hI.ctx
    have hc' : ((List.range ops.size).filter fun j => !(listed.setIfInBounds i true).getD j true).length ≤ fuel := by
      have := unlisted_less (N := ops.size) hlt hil
      omega
    have hsame : ∀ x ∈ o.op.operands, a.eval x = aF.eval x := by
      intro x hx
      cases x with
      | tmp t =>
        exact hI.vals t fun j oj hj hd => by
          obtain ⟨e, he, hb, rfl⟩ := hP.reads t hx j oj hj hd
          exact hafter e he hb
      | _ => rfl
    have hex := execOp_congr o hP.nosel hsame
    have hab := about_congr (P := P) o w hsame
    have next : ∀ (v : Value) (w' : World), (match o.dst with | some d => v = aF.eval (.tmp d) | none => True) → Ctx w' → wpAnyIn F n P .any ops Q fuel (listed.setIfInBounds i true) (a.put o.dst v) w' := by
      intro v w' hv hw'
      cases hd : o.dst with
      | none =>
        refine ih _ _ _ ⟨by rw [Array.size_setIfInBounds]; exact hI.size, hI.defers, hI.tsize, fun t ht => ?_, hw'⟩ hc'
        refine hI.vals t fun j oj hj hjd => ?_
        have h1 := ht j oj hj hjd
        rw [getD_mark, if_neg] at h1
        · exact h1
        · rintro ⟨rfl, _⟩
          rw [ho] at hj; cases hj
          rw [hd] at hjd; cases hjd
      | some d =>
        rw [hd] at hv
        simp only at hv
        have hdl : d < a.tmps.size := by rw [hI.tsize]; exact hdlt d hd
        refine ih _ _ _ ⟨by rw [Array.size_setIfInBounds]; exact hI.size, hI.defers, ?_, fun t ht => ?_, hw'⟩ hc'
        · show (a.tmps.setIfInBounds d _).size = _
          rw [Array.size_setIfInBounds, hI.tsize]
        · by_cases hdt : d = t
          · subst hdt
            show (a.tmps.setIfInBounds d v).getD d undef = _
            simp [Array.getD, hdl, hv]
          · show (a.tmps.setIfInBounds d v).getD t undef = _
            rw [Array.getD_eq_getD_getElem?, Array.getElem?_setIfInBounds, if_neg hdt, ← Array.getD_eq_getD_getElem?]
            refine hI.vals t fun j oj hj hjd => ?_
            have h1 := ht j oj hj hjd
            rw [getD_mark, if_neg] at h1
            · exact h1
            · rintro ⟨rfl, _⟩
              rw [ho] at hj; cases hj
              rw [hd] at hjd; cases hjd; exact hdt rfl
    unfold Oper.wpIn
    rw [hab, Oper.semAt_eq _ _ _ hP.nodefer, hex]
    refine ⟨hr1, ?_⟩
    unfold OpInv at hr2
    split at hr2
    · rename_i v w' heq
      rw [heq]
      exact next v w' hr2.1 hr2.2
    · rename_i w' heq
      rw [heq]
      exact next undef w' hr2.1 hr2.2
    · rename_i f args w' heq
      rw [heq]
      refine ⟨hr2.1, hr2.2.mono ?_⟩
      rintro e w'' ⟨v, rfl, hv, hw''⟩
      exact next v w'' hv hw''
    · exact hr2.elim
theorem region_inv {F : Fence} {n : Nat} {P : Program} {id : Nat} {l : List Oper} {Q : Exit → Act → World → Prop} (ps : List (Nat × Value)) {aF : Act} (Ctx : World → Prop) {a : Act} {w : World} (haF : putAll a ps = aF) (hm : P.follows .mixedOrders = true)
    (hk : (ps.map (·.1)).all (fun t => (writes l.toArray).contains t) = true) (hp : planN l.toArray = true) (h0 : Ctx w.drew)
    (hrun : EveryOp (fun o => (∀ d, o.dst = some d → d < aF.tmps.size) ∧ ∀ w, Ctx w → (∀ f, o.about P w aF.eval = some f → F.fn f) ∧ OpInv F n P Ctx aF o w) l)
    (hQ : ∀ w', Ctx w' → Q .normal aF w') :
    (Code.region id l.toArray true).wpIn F n P Q a w := by
  subst haF
  refine wpIn_region_any hm (inv_walk hp (fun i o hi => everyOp_get hrun i o hi) hQ _ _ _ _ ⟨by simp, rfl, (putAll_size a ps).symm, fun t ht => ?_, h0⟩ ?_)
  · have hw : t ∉ ps.map (·.1) := by
      intro h
      have := List.all_eq_true.1 hk t h
      have hw : t ∈ writes l.toArray := by simpa using this
      obtain ⟨oj, hoj, hd⟩ := List.mem_filterMap.1 hw
      obtain ⟨j, hj, rfl⟩ := List.mem_iff_getElem.1 hoj
      have := ht j _ (by simp at hj ⊢) hd
      rw [Array.getD_eq_getD_getElem?, Array.getElem?_replicate] at this
      split at this <;> simp at this
    have := putAll_get a ps t hw
    simp only [Act.eval, Array.getD_eq_getD_getElem?, this]
  · exact Nat.le_trans (List.length_filter_le _ _) (by simp)
end Go.Proofs.YtbimlijhgeajjaaGreatDoor

namespace Go.Proofs.YtbimlijhgeajjaaGreatDoor
open Go Go.RowKit
set_option linter.unusedVariables false
set_option linter.unusedSimpArgs false
/-- what the kernel checks: as planN, and a guard's operation stands before it -/
def planG (ops : Array Oper) : Bool :=
  (List.range ops.size).all fun i => match ops[i]? with
    | none => false
    | some o =>
      (match o.guard with | none => true | some (k, _) => o.after.any (fun e => Region.binds .any e && e.on == k) && (match ops[k]? with | some ok => ok.dst.isSome | none => false)) &&
      (match o.op with | .defer _ => false | .select _ _ => false | _ => true) &&
      o.after.all (fun e => !Region.binds .any e || decide (e.on < i)) &&
      (o.op.operands.toList.all fun | .tmp t => (List.range ops.size).all (fun j => match ops[j]? with | some oj => oj.dst != some t || o.after.any (fun e => Region.binds .any e && e.on == j) | none => true) | _ => true) &&
      ((List.range ops.size).all fun j => j == i || match ops[j]? with | some oj => oj.dst != o.dst || o.dst.isNone | none => true)
structure PlanGOf (ops : Array Oper) (i : Nat) (o : Oper) : Prop where
  guard : ∀ k b, o.guard = some (k, b) → (∃ e ∈ o.after, Region.binds .any e = true ∧ e.on = k) ∧ ∃ ok d, ops[k]? = some ok ∧ ok.dst = some d
  nodefer : ∀ c, o.op ≠ .defer c
  nosel : ∀ cs b, o.op ≠ .select cs b
  back : ∀ e ∈ o.after, Region.binds .any e = true → e.on < i
  reads : ∀ t, Operand.tmp t ∈ o.op.operands → ∀ j oj, ops[j]? = some oj → oj.dst = some t → ∃ e ∈ o.after, Region.binds .any e = true ∧ e.on = j
  once : ∀ j oj, ops[j]? = some oj → j ≠ i → ∀ d, o.dst = some d → oj.dst ≠ some d
theorem planG_spec {ops : Array Oper} (h : planG ops = true) {i : Nat} {o : Oper} (hi : ops[i]? = some o) : PlanGOf ops i o := by
  have hlt : i < ops.size := (Array.getElem?_eq_some_iff.1 hi).1
  have h := List.all_eq_true.1 h i (List.mem_range.2 hlt)
  simp only [hi, Bool.and_eq_true, beq_iff_eq] at h
  obtain ⟨⟨⟨⟨h1, h2⟩, h3⟩, h5⟩, h6⟩ := h
  refine ⟨?_, ?_, ?_, ?_, ?_, ?_⟩
  · intro k b hg
    rw [hg] at h1
    simp only [Bool.and_eq_true] at h1
    obtain ⟨h7, h8⟩ := h1
    obtain ⟨j, hj, h7⟩ := Array.any_eq_true.1 h7
    simp only [Bool.and_eq_true, beq_iff_eq] at h7
    refine ⟨⟨o.after[j], Array.getElem_mem hj, h7.1, h7.2⟩, ?_⟩
    cases hk : ops[k]? with
    | none => rw [hk] at h8; cases h8
    | some ok =>
      rw [hk] at h8
      obtain ⟨d, hd⟩ := Option.isSome_iff_exists.1 h8
      exact ⟨ok, d, rfl, hd⟩
  · intro c hc
    simp [hc] at h2
  · intro cs b hc
    simp [hc] at h2
  · intro e he hb
    have := Array.all_eq_true_iff_forall_mem.1 h3 e he
    simpa [hb] using this
  · intro t ht j oj hj hd
    have h := List.all_eq_true.1 h5 (.tmp t) (by simpa using ht)
    have h := List.all_eq_true.1 h j (List.mem_range.2 (Array.getElem?_eq_some_iff.1 hj).1)
    simp only [hj, hd, bne_self_eq_false, Bool.false_or] at h
    obtain ⟨k, hk, h⟩ := Array.any_eq_true.1 h
    simp only [Bool.and_eq_true, beq_iff_eq] at h
    exact ⟨o.after[k], Array.getElem_mem hk, h.1, h.2⟩
  · intro j oj hj hne d hd hjd
    have h := List.all_eq_true.1 h6 j (List.mem_range.2 (Array.getElem?_eq_some_iff.1 hj).1)
    simp [hj, hne, hd, hjd] at h
theorem unlistedG {ops : Array Oper} (hp : planG ops = true) {listed : Array Bool} (hsz : listed.size = ops.size) (k : Nat) (hk : listed.getD k true = false) : Region.ready .any ops listed ≠ [] := by
  induction k using Nat.strongRecOn with
  | _ k ih =>
    have hlt : k < ops.size := by
      rcases Nat.lt_or_ge k listed.size with h | h
      · omega
      · rw [Array.getD_eq_getD_getElem?, Array.getElem?_eq_none h] at hk
        cases hk
    by_cases hall : ∀ e ∈ (ops[k]).after, Region.binds .any e = true → listed.getD e.on false = true
    · have : k ∈ Region.ready .any ops listed := mem_ready.2 ⟨hk, ops[k], by simp [hlt], hall⟩
      intro e; rw [e] at this; cases this
    · simp only [Classical.not_forall] at hall
      obtain ⟨e, he, hb, hn⟩ := hall
      have hlt2 := (planG_spec hp (show ops[k]? = some ops[k] by simp [hlt])).back e he hb
      refine ih e.on hlt2 ?_
      have : e.on < listed.size := by omega
      rw [Array.getD_eq_getD_getElem?, Array.getElem?_eq_getElem this] at hn ⊢
      simpa using hn
/-- the guard is met, by the slots as they will be -/
def metG (ops : Array Oper) (aF : Act) (o : Oper) : Prop :=
  match o.guard with
  | none => True
  | some (k, b) => match (ops[k]?).bind (·.dst) with
    | some d => d < aF.tmps.size ∧ aF.eval (.tmp d) = .bool b
    | none => False
/-- the guard is not met -/
def missG (ops : Array Oper) (aF : Act) (o : Oper) : Prop :=
  match o.guard with
  | none => False
  | some (k, b) => match (ops[k]?).bind (·.dst) with
    | some d => d < aF.tmps.size ∧ aF.eval (.tmp d) = .bool (!b)
    | none => False
/-- one operation's word: it is wanted, and comes to its value; or it is not wanted -/
def GuardOp (F : Fence) (n : Nat) (P : Program) (Ctx : World → Prop) (ops : Array Oper) (aF : Act) (o : Oper) : Prop :=
  (metG ops aF o ∧ ∀ w, Ctx w → (∀ f, o.about P w aF.eval = some f → F.fn f) ∧ OpInv F n P Ctx aF o w) ∨
  (missG ops aF o ∧ (∀ d, o.dst = some d → aF.eval (.tmp d) = undef) ∧ ∀ w, Ctx w → ∀ f, o.about P w aF.eval = some f → F.fn f)
theorem guard_walk {F : Fence} {n : Nat} {P : Program} {ops : Array Oper} {Q : Exit → Act → World → Prop} {Ctx : World → Prop} {aF : Act} (hp : planG ops = true)
    (hrun : ∀ (i : Nat) (o : Oper), ops[i]? = some o → (∀ d, o.dst = some d → d < aF.tmps.size) ∧ GuardOp F n P Ctx ops aF o)
    (hQ : ∀ w, Ctx w → Q .normal aF w) :
    ∀ (fuel : Nat) (listed : Array Bool) (a : Act) (w : World), MonoInv ops (fun t v _ => v = aF.eval (.tmp t)) Ctx aF listed a w → ((List.range ops.size).filter fun i => !listed.getD i true).length ≤ fuel → wpAnyIn F n P .any ops Q fuel listed a w := by
  have fin : ∀ (listed : Array Bool) (a : Act) (w : World), MonoInv ops (fun t v _ => v = aF.eval (.tmp t)) Ctx aF listed a w → Region.ready .any ops listed = [] → Q .normal a w := by
    intro listed a w hI h0
    have hall : ∀ j, listed.getD j true = true := fun j => by
      cases hj : listed.getD j true with
      | true => rfl
      | false => exact absurd h0 (unlistedG hp hI.size j hj)
    have hS : ∀ t, a.eval (.tmp t) = aF.eval (.tmp t) := fun t => hI.vals t fun j oj hj hd => by
      have hlt := (Array.getElem?_eq_some_iff.1 hj).1
      have := hall j
      rw [Array.getD_eq_getD_getElem?, Array.getElem?_eq_getElem (by rw [hI.size]; exact hlt)] at this ⊢
      simpa using this
    have haF : a = aF := by
      have hsz := hI.tsize
      have ht : a.tmps = aF.tmps := by
        refine Array.ext_getElem? fun t => ?_
        have h1 := hS t
        by_cases hlt : t < aF.tmps.size
        · have hlt2 : t < a.tmps.size := by omega
          simp only [Act.eval, Array.getD_eq_getD_getElem?, Array.getElem?_eq_getElem hlt, Array.getElem?_eq_getElem hlt2, Option.getD_some] at h1
          rw [Array.getElem?_eq_getElem hlt, Array.getElem?_eq_getElem hlt2, h1]
        · rw [Array.getElem?_eq_none (by omega), Array.getElem?_eq_none (by omega)]
      have hd2 : a.defers = aF.defers := hI.defers
      cases a; cases aF
      simp only at ht hd2
      rw [ht, hd2]
    rw [haF]; exact hQ w hI.ctx
  intro fuel
  induction fuel with
  | zero =>
    intro listed a w hI hc
    have h0 : (List.range ops.size).filter (fun i => !listed.getD i true) = [] := List.length_eq_zero_iff.1 (by omega)
    have hr : Region.ready .any ops listed = [] := by
      refine List.filter_eq_nil_iff.2 fun j hj => ?_
      have := List.filter_eq_nil_iff.1 h0 j hj
      simp only [Bool.not_eq_true', Bool.not_eq_false] at this
      simp [this]
    exact ⟨hr, fin listed a w hI hr⟩
  | succ fuel ih =>
    intro listed a w hI hc
    refine ⟨fun h0 => fin listed a w hI h0, fun i hi => ?_⟩
    obtain ⟨hil, o, ho, hafter⟩ := mem_ready.1 hi
    have hP := planG_spec hp ho
    have hlt : i < ops.size := (Array.getElem?_eq_some_iff.1 ho).1
    obtain ⟨hdlt, hor⟩ := hrun i o ho
    have hval : ∀ k b c, o.guard = some (k, b) → (∃ d, (ops[k]?).bind (·.dst) = some d ∧ d < aF.tmps.size ∧ aF.eval (.tmp d) = .bool c) → yielded ops a.tmps k = some c := by
      rintro k b c hg ⟨d, hkd, hdl, hv⟩
      obtain ⟨⟨e, he, hb, rfl⟩, ok, d', hok, hd⟩ := hP.guard k b hg
      simp only [hok, Option.bind_some, hd, Option.some.injEq] at hkd
      subst hkd
      have hv2 : a.eval (.tmp d') = .bool c := (hI.vals d' fun j oj hj hjd => by
        rcases Decidable.em (j = e.on) with h | h
        · rw [h]; exact hafter e he hb
        · exact absurd hjd ((planG_spec hp hok).once j oj hj h d' hd)).trans hv
      have hda : d' < a.tmps.size := by rw [hI.tsize]; exact hdl
      unfold yielded
      simp only [hok, Option.bind_some, hd]
      have h3 : a.tmps[d']? = some (.bool c) := by
        rw [Array.getElem?_eq_getElem hda]
        have : a.tmps[d'] = a.eval (.tmp d') := by simp [Act.eval, Array.getD, hda]
        rw [this, hv2]
      rw [h3]
    have hc' : ((List.range ops.size).filter fun j => !(listed.setIfInBounds i true).getD j true).length ≤ fuel := by
      have := unlisted_less (N := ops.size) hlt hil
      omega
    have hsame : ∀ x ∈ o.op.operands, a.eval x = aF.eval x := by
      intro x hx
      cases x with
      | tmp t =>
        exact hI.vals t fun j oj hj hd => by
          obtain ⟨e, he, hb, rfl⟩ := hP.reads t hx j oj hj hd
          exact hafter e he hb
      | _ => rfl
    have hex := execOp_congr o hP.nosel hsame
    have hab := about_congr (P := P) o w hsame
    have next : ∀ (v : Value) (w' : World), (match o.dst with | some d => v = aF.eval (.tmp d) | none => True) → Ctx w' → wpAnyIn F n P .any ops Q fuel (listed.setIfInBounds i true) (a.put o.dst v) w' := by
      intro v w' hv hw'
      cases hd : o.dst with
      | none =>
        refine ih _ _ _ ⟨by rw [Array.size_setIfInBounds]; exact hI.size, hI.defers, hI.tsize, fun t ht => ?_, hw'⟩ hc'
        refine hI.vals t fun j oj hj hjd => ?_
        have h1 := ht j oj hj hjd
        rw [getD_mark, if_neg] at h1
        · exact h1
        · rintro ⟨rfl, _⟩
          rw [ho] at hj; cases hj
          rw [hd] at hjd; cases hjd
      | some d =>
        rw [hd] at hv
        simp only at hv
        have hdl : d < a.tmps.size := by rw [hI.tsize]; exact hdlt d hd
        refine ih _ _ _ ⟨by rw [Array.size_setIfInBounds]; exact hI.size, hI.defers, ?_, fun t ht => ?_, hw'⟩ hc'
        · show (a.tmps.setIfInBounds d _).size = _
          rw [Array.size_setIfInBounds, hI.tsize]
        · by_cases hdt : d = t
          · subst hdt
            show (a.tmps.setIfInBounds d v).getD d undef = _
            simp [Array.getD, hdl, hv]
          · show (a.tmps.setIfInBounds d v).getD t undef = _
            rw [Array.getD_eq_getD_getElem?, Array.getElem?_setIfInBounds, if_neg hdt, ← Array.getD_eq_getD_getElem?]
            refine hI.vals t fun j oj hj hjd => ?_
            have h1 := ht j oj hj hjd
            rw [getD_mark, if_neg] at h1
            · exact h1
            · rintro ⟨rfl, _⟩
              rw [ho] at hj; cases hj
              rw [hd] at hjd; cases hjd; exact hdt rfl
    unfold wpOpIn
    rcases hor with ⟨hmet, hr⟩ | ⟨hmiss, hund, hr⟩
    rotate_left
    · have hwant : Region.wanted o (yielded ops a.tmps) = false := by
        unfold missG at hmiss
        cases hg : o.guard with
        | none => rw [hg] at hmiss; exact hmiss.elim
        | some kb =>
          obtain ⟨k, b⟩ := kb
          rw [hg] at hmiss
          cases hk : (ops[k]?).bind (·.dst) with
          | none => simp only [hk] at hmiss
          | some d =>
            simp only [hk] at hmiss
            have hy := hval k b (!b) hg ⟨d, hk, hmiss.1, hmiss.2⟩
            cases b <;> simp [Region.wanted, hg, hy]
      simp only [ho, hwant]
      refine ⟨fun f hf => hr w hI.ctx f (by rw [← hab]; exact hf), next undef w ?_ hI.ctx⟩
      cases hd : o.dst with
      | none => trivial
      | some d => exact (hund d hd).symm
    have hwant : Region.wanted o (yielded ops a.tmps) = true := by
      unfold metG at hmet
      cases hg : o.guard with
      | none => simp [Region.wanted, hg]
      | some kb =>
        obtain ⟨k, b⟩ := kb
        rw [hg] at hmet
        cases hk : (ops[k]?).bind (·.dst) with
        | none => simp only [hk] at hmet
        | some d =>
          simp only [hk] at hmet
          have hy := hval k b b hg ⟨d, hk, hmet.1, hmet.2⟩
          simp [Region.wanted, hg, hy]
    simp only [ho, hwant, if_true]
    obtain ⟨hr1, hr2⟩ := hr w hI.ctx
    unfold Oper.wpIn
    rw [hab, Oper.semAt_eq _ _ _ hP.nodefer, hex]
    refine ⟨hr1, ?_⟩
    unfold OpInv at hr2
    split at hr2
    · rename_i v w' heq
      rw [heq]
      exact next v w' hr2.1 hr2.2
    · rename_i w' heq
      rw [heq]
      exact next undef w' hr2.1 hr2.2
    · rename_i f args w' heq
      rw [heq]
      refine ⟨hr2.1, hr2.2.mono ?_⟩
      rintro e w'' ⟨v, rfl, hv, hw''⟩
      exact next v w'' hv hw''
    · exact hr2.elim
theorem region_guard {F : Fence} {n : Nat} {P : Program} {id : Nat} {l : List Oper} {Q : Exit → Act → World → Prop} (ps : List (Nat × Value)) {aF : Act} (Ctx : World → Prop) {a : Act} {w : World} (haF : putAll a ps = aF) (hm : P.follows .mixedOrders = true)
    (hk : (ps.map (·.1)).all (fun t => (writes l.toArray).contains t) = true) (hp : planG l.toArray = true) (h0 : Ctx w.drew)
    (hrun : EveryOp (fun o => (∀ d, o.dst = some d → d < aF.tmps.size) ∧ GuardOp F n P Ctx l.toArray aF o) l)
    (hQ : ∀ w', Ctx w' → Q .normal aF w') :
    (Code.region id l.toArray true).wpIn F n P Q a w := by
  subst haF
  refine wpIn_region_any hm (guard_walk hp (fun i o hi => everyOp_get hrun i o hi) hQ _ _ _ _ ⟨by simp, rfl, (putAll_size a ps).symm, fun t ht => ?_, h0⟩ ?_)
  · have hw : t ∉ ps.map (·.1) := by
      intro h
      have := List.all_eq_true.1 hk t h
      have hw : t ∈ writes l.toArray := by simpa using this
      obtain ⟨oj, hoj, hd⟩ := List.mem_filterMap.1 hw
      obtain ⟨j, hj, rfl⟩ := List.mem_iff_getElem.1 hoj
      have := ht j _ (by simp at hj ⊢) hd
      rw [Array.getD_eq_getD_getElem?, Array.getElem?_replicate] at this
      split at this <;> simp at this
    have := putAll_get a ps t hw
    simp only [Act.eval, Array.getD_eq_getD_getElem?, this]
  · exact Nat.le_trans (List.length_filter_le _ _) (by simp)
end Go.Proofs.YtbimlijhgeajjaaGreatDoor
