/- A region that draws its order, inside a round: its operations read, one makes a block, the last one stores. No program in sight. -/
import Derived.OrdersIn
import Derived.RowKit
import Derived.Fence
import Derived.TacticsIn
set_option linter.unusedSectionVars false
set_option linter.unusedSimpArgs false
set_option linter.unusedVariables false
namespace Go.Proofs.YtfeenkofnbefaaaGreatDoor
open Go Go.RowKit
set_option linter.unusedVariables false
/-- what the kernel checks of the region: no guard, no defer, no select; edges lead back; each temporary has one writer; who reads a temporary comes behind its writer; s is the last, and behind all -/
def planB (ops : Array Oper) (s : Nat) : Bool :=
  (List.range ops.size).all fun i => match ops[i]? with
    | none => false
    | some o =>
      o.guard.isNone &&
      (match o.op with | .defer _ => false | .select _ _ => false | _ => true) &&
      o.after.all (fun e => !Region.binds .any e || decide (e.on < i)) &&
      (i == s || o.dst.isSome) &&
      (o.op.operands.toList.all fun | .tmp t => (List.range ops.size).all (fun j => match ops[j]? with | some oj => oj.dst != some t || o.after.any (fun e => Region.binds .any e && e.on == j) | none => true) | _ => true) &&
      ((List.range ops.size).all fun j => j == i || match ops[j]? with | some oj => oj.dst != o.dst || o.dst.isNone | none => true) &&
      (i != s || (List.range ops.size).all fun j => j == i || o.after.any (fun e => Region.binds .any e && e.on == j))
structure PlanOf (ops : Array Oper) (s i : Nat) (o : Oper) : Prop where
  guard : o.guard = none
  nodefer : ∀ c, o.op ≠ .defer c
  nosel : ∀ cs b, o.op ≠ .select cs b
  back : ∀ e ∈ o.after, Region.binds .any e = true → e.on < i
  dst : i ≠ s → ∃ d, o.dst = some d
  reads : ∀ t, Operand.tmp t ∈ o.op.operands → ∀ j oj, ops[j]? = some oj → oj.dst = some t → ∃ e ∈ o.after, Region.binds .any e = true ∧ e.on = j
  once : ∀ j oj, ops[j]? = some oj → j ≠ i → ∀ d, o.dst = some d → oj.dst ≠ some d
  last : i = s → ∀ j oj, ops[j]? = some oj → j ≠ i → ∃ e ∈ o.after, Region.binds .any e = true ∧ e.on = j
theorem plan_spec {ops : Array Oper} {s : Nat} (h : planB ops s = true) {i : Nat} {o : Oper} (hi : ops[i]? = some o) : PlanOf ops s i o := by
  have hlt : i < ops.size := (Array.getElem?_eq_some_iff.1 hi).1
  have h := List.all_eq_true.1 h i (List.mem_range.2 hlt)
  simp only [hi, Bool.and_eq_true, Bool.or_eq_true, bne_iff_ne, beq_iff_eq] at h
  obtain ⟨⟨⟨⟨⟨⟨h1, h2⟩, h3⟩, h4⟩, h5⟩, h6⟩, h7⟩ := h
  refine ⟨by simpa using h1, ?_, ?_, ?_, ?_, ?_, ?_, ?_⟩
  · intro c hc
    simp [hc] at h2
  · intro cs b hc
    simp [hc] at h2
  · intro e he hb
    have := Array.all_eq_true_iff_forall_mem.1 h3 e he
    simpa [hb] using this
  · intro hs
    rcases h4 with h4 | h4
    · exact absurd h4 hs
    · exact Option.isSome_iff_exists.1 h4
  · intro t ht j oj hj hd
    have h := List.all_eq_true.1 h5 (.tmp t) (by simpa using ht)
    have h := List.all_eq_true.1 h j (List.mem_range.2 (Array.getElem?_eq_some_iff.1 hj).1)
    simp only [hj, hd, bne_self_eq_false, Bool.false_or] at h
    obtain ⟨k, hk, h⟩ := Array.any_eq_true.1 h
    simp only [Bool.and_eq_true, beq_iff_eq] at h
    exact ⟨o.after[k], Array.getElem_mem hk, h.1, h.2⟩
  · intro j oj hj hne d hd hjd
    have h := List.all_eq_true.1 h6 j (List.mem_range.2 (Array.getElem?_eq_some_iff.1 hj).1)
    simp [hj, hne, hd, hjd] at h
  · intro hs j oj hj hne
    rcases h7 with h7 | h7
    · exact absurd hs h7
    have h := List.all_eq_true.1 h7 j (List.mem_range.2 (Array.getElem?_eq_some_iff.1 hj).1)
    simp only [Bool.or_eq_true, beq_iff_eq, hne, false_or] at h
    obtain ⟨k, hk, h⟩ := Array.any_eq_true.1 h
    simp only [Bool.and_eq_true, beq_iff_eq] at h
    exact ⟨o.after[k], Array.getElem_mem hk, h.1, h.2⟩
/-- between two operations: what has been written is as it will be; the block is made, or not yet -/
structure PlanInv (ops : Array Oper) (p : Nat) (aF : Act) (W0 W1 : World) (listed : Array Bool) (a : Act) (w : World) : Prop where
  size : listed.size = ops.size
  defers : a.defers = aF.defers
  tsize : a.tmps.size = aF.tmps.size
  tmps : ∀ t : Nat, (∀ (j : Nat) oj, ops[j]? = some oj → oj.dst = some t → listed.getD j false = true) → a.tmps[t]? = aF.tmps[t]?
  world : w = if listed.getD p false = true then W1 else W0
theorem unlisted_ready {ops : Array Oper} {s : Nat} (hp : planB ops s = true) {listed : Array Bool} (hsz : listed.size = ops.size) (k : Nat) (hk : listed.getD k true = false) : Region.ready .any ops listed ≠ [] := by
  induction k using Nat.strongRecOn with
  | _ k ih =>
    have hlt : k < ops.size := by
      rcases Nat.lt_or_ge k listed.size with h | h
      · omega
      · rw [Array.getD_eq_getD_getElem?, Array.getElem?_eq_none h] at hk
        cases hk
    by_cases hall : ∀ e ∈ (ops[k]).after, Region.binds .any e = true → listed.getD e.on false = true
    · have : k ∈ Region.ready .any ops listed := mem_ready.2 ⟨hk, ops[k], by simp [hlt], hall⟩
      intro e; rw [e] at this; cases this
    · simp only [Classical.not_forall] at hall
      obtain ⟨e, he, hb, hn⟩ := hall
      have hlt2 := (plan_spec hp (show ops[k]? = some ops[k] by simp [hlt])).back e he hb
      refine ih e.on hlt2 ?_
      have : e.on < listed.size := by omega
      rw [Array.getD_eq_getD_getElem?, Array.getElem?_eq_getElem this] at hn ⊢
      simpa using hn
theorem getD_mark (l : Array Bool) (i j : Nat) (b : Bool) : (l.setIfInBounds i true).getD j b = if i = j ∧ i < l.size then true else l.getD j b := by
  rw [Array.getD_eq_getD_getElem?, Array.getElem?_setIfInBounds, Array.getD_eq_getD_getElem?]
  by_cases h : i = j
  · subst h
    by_cases h2 : i < l.size
    · simp [h2]
    · simp [h2]
  · simp [h]
theorem unlisted_less {N : Nat} {listed : Array Bool} {i : Nat} (hi : i < N) (hl : listed.getD i true = false) :
    ((List.range N).filter fun j => !(listed.setIfInBounds i true).getD j true).length < ((List.range N).filter fun j => !listed.getD j true).length := by
  have hsz : i < listed.size := by
    rcases Nat.lt_or_ge i listed.size with h | h
    · exact h
    · rw [Array.getD_eq_getD_getElem?, Array.getElem?_eq_none h] at hl; cases hl
  have e : (List.range N).filter (fun j => !(listed.setIfInBounds i true).getD j true) = ((List.range N).filter fun j => !listed.getD j true).filter fun j => j != i := by
    rw [List.filter_filter]
    refine List.filter_congr fun j _ => ?_
    rw [getD_mark]
    by_cases h : i = j
    · subst h; simp [hsz]
    · have : j ≠ i := fun e => h e.symm
      simp [h, this]
  rw [e]
  exact List.length_filter_lt_length_iff_exists.2 ⟨i, List.mem_filter.2 ⟨List.mem_range.2 hi, by rw [hl]; rfl⟩, by simp⟩
theorem plan_walk {F : Fence} {n : Nat} {P : Program} {ops : Array Oper} {Q : Exit → Act → World → Prop} {p s : Nat} {aF : Act} {W0 W1 : World} (hp : planB ops s = true) (hps : p ≠ s) (hs : s < ops.size) (hpp : p < ops.size) (hsd : ∀ o, ops[s]? = some o → o.dst = none)
    (hrun : ∀ (i : Nat) (o : Oper) (d : Tmp), ops[i]? = some o → i ≠ s → o.dst = some d → ∀ w, (∀ f, o.about P w aF.eval = some f → F.fn f) ∧ (i ≠ p → (w = W0 ∨ w = W1) → (execOp aF.eval o).run P w = .ok (.value (aF.eval (.tmp d))) w) ∧ (i = p → w = W0 → (execOp aF.eval o).run P w = .ok (.value (aF.eval (.tmp d))) W1))
    (hlast : ∀ o, ops[s]? = some o → o.wpIn F n P aF W1 (fun a w => Q .normal a w) Q) :
    ∀ (fuel : Nat) (listed : Array Bool) (a : Act) (w : World), PlanInv ops p aF W0 W1 listed a w → listed.getD s true = false → ((List.range ops.size).filter fun i => !listed.getD i true).length ≤ fuel → wpAnyIn F n P .any ops Q fuel listed a w := by
  intro fuel
  induction fuel with
  | zero =>
    intro listed a w hI hsl hc
    have : s ∈ (List.range ops.size).filter fun i => !listed.getD i true := List.mem_filter.2 ⟨List.mem_range.2 hs, by rw [hsl]; rfl⟩
    have h0 : (List.range ops.size).filter (fun i => !listed.getD i true) = [] := List.length_eq_zero_iff.1 (by omega)
    rw [h0] at this; cases this
  | succ fuel ih =>
    intro listed a w hI hsl hc
    refine ⟨fun h0 => absurd h0 (unlisted_ready hp hI.size s hsl), fun i hi => ?_⟩
    obtain ⟨hil, o, ho, hafter⟩ := mem_ready.1 hi
    have hP := plan_spec hp ho
    have hlt : i < ops.size := (Array.getElem?_eq_some_iff.1 ho).1
    -- what the operation reads is as it will be
    have hsame : ∀ x ∈ o.op.operands, a.eval x = aF.eval x := by
      intro x hx
      cases x with
      | tmp t =>
        have := hI.tmps t fun j oj hj hd => by
          obtain ⟨e, he, hb, rfl⟩ := hP.reads t hx j oj hj hd
          exact hafter e he hb
        simp only [Act.eval, Array.getD_eq_getD_getElem?, this]
      | _ => rfl
    have hex := execOp_congr o hP.nosel hsame
    have hab := about_congr (P := P) o w hsame
    have hwant : Region.wanted o (yielded ops a.tmps) = true := by simp [Region.wanted, hP.guard]
    unfold wpOpIn
    simp only [ho, hwant, if_true]
    by_cases his : i = s
    · subst his
      have hall : ∀ j oj, ops[j]? = some oj → j ≠ i → listed.getD j false = true := fun j oj hj hne => by
        obtain ⟨e, he, hb, rfl⟩ := hP.last rfl j oj hj hne
        exact hafter e he hb
      have hw : w = W1 := by
        rw [hI.world, hall p ops[p] (by simp [hpp]) hps, if_pos rfl]
      have haF : a = aF := by
        have ht : a.tmps = aF.tmps := by
          refine Array.ext_getElem? fun t => hI.tmps t fun j oj hj hd => hall j oj hj ?_
          rintro rfl
          rw [hsd oj hj] at hd; cases hd
        cases a; cases aF
        simp only at ht
        have := hI.defers
        simp only at this
        rw [ht, this]
      rw [haF, hw]
      refine Oper.wpIn_mono (fun a' w' h => ?_) (hlast o ho)
      refine wpAnyIn_done ?_ h _
      refine List.filter_eq_nil_iff.2 fun j hj => ?_
      have hj := List.mem_range.1 hj
      have : (listed.setIfInBounds i true).getD j true = true := by
        rw [getD_mark]
        by_cases h : i = j
        · subst h; simp [hI.size, hlt]
        · have h1 := hall j ops[j] (by simp [hj]) (fun e => h e.symm)
          rw [Array.getD_eq_getD_getElem?, Array.getElem?_eq_getElem (by rw [hI.size]; exact hj)] at h1
          rw [if_neg (by simp [h]), Array.getD_eq_getD_getElem?, Array.getElem?_eq_getElem (by rw [hI.size]; exact hj)]
          simpa using h1
      simp [this]
    · obtain ⟨d, hd⟩ := hP.dst his
      have hr := hrun i o d ho his hd w
      have hsl' : (listed.setIfInBounds i true).getD s true = false := by rw [getD_mark, if_neg (by simp [his]), hsl]
      have hc' : ((List.range ops.size).filter fun j => !(listed.setIfInBounds i true).getD j true).length ≤ fuel := by
        have := unlisted_less (N := ops.size) hlt hil
        omega
      have hsemat : (o.semAt F.round a.eval).run P w = (execOp aF.eval o).run P w := by rw [Oper.semAt_eq _ _ _ hP.nodefer, hex]
      unfold Oper.wpIn
      rw [hab, hsemat]
      refine ⟨hr.1, ?_⟩
      have hput : ∀ t : Nat, (∀ (j : Nat) oj, ops[j]? = some oj → oj.dst = some t → (listed.setIfInBounds i true).getD j false = true) → (a.put o.dst (aF.eval (.tmp d))).tmps[t]? = aF.tmps[t]? := by
        intro t ht
        rw [hd]
        show (a.tmps.setIfInBounds d _)[t]? = _
        rw [Array.getElem?_setIfInBounds]
        by_cases hdt : d = t
        · subst hdt
          by_cases hlt2 : d < a.tmps.size
          · have hlt3 : d < aF.tmps.size := by rw [← hI.tsize]; exact hlt2
            rw [if_pos rfl, if_pos hlt2, Array.getElem?_eq_getElem hlt3]
            simp [Act.eval, Array.getD, hlt3]
          · have hlt3 : ¬ d < aF.tmps.size := by rw [← hI.tsize]; exact hlt2
            rw [if_pos rfl, if_neg hlt2, Array.getElem?_eq_none (Nat.le_of_not_lt hlt3)]
        · rw [if_neg hdt]
          refine hI.tmps t fun j oj hj hjd => ?_
          have h1 := ht j oj hj hjd
          rw [getD_mark, if_neg] at h1
          · exact h1
          · rintro ⟨rfl, _⟩
            rw [ho] at hj; cases hj
            rw [hd] at hjd; cases hjd; exact hdt rfl
      have hsize' : (a.put o.dst (aF.eval (.tmp d))).tmps.size = aF.tmps.size := by
        rw [hd]; show (a.tmps.setIfInBounds d _).size = _
        rw [Array.size_setIfInBounds, hI.tsize]
      have hdef' : (a.put o.dst (aF.eval (.tmp d))).defers = aF.defers := by rw [hd]; exact hI.defers
      by_cases hip : i = p
      · have hw : w = W0 := by
          rw [hI.world, if_neg]
          rw [← hip]
          intro h
          rw [Array.getD_eq_getD_getElem?, Array.getElem?_eq_getElem (by rw [hI.size]; exact hlt)] at h hil
          simp at h hil
          rw [h] at hil; cases hil
        rw [hr.2.2 hip hw]
        refine ih _ _ _ ⟨by rw [Array.size_setIfInBounds]; exact hI.size, hdef', hsize', hput, ?_⟩ hsl' hc'
        have hmk : (listed.setIfInBounds i true).getD p false = true := by rw [getD_mark, if_pos ⟨hip, by rw [hI.size]; exact hlt⟩]
        rw [hmk]; rfl
      · have hw : w = W0 ∨ w = W1 := by
          rw [hI.world]
          split
          · exact .inr rfl
          · exact .inl rfl
        rw [hr.2.1 hip hw]
        refine ih _ _ _ ⟨by rw [Array.size_setIfInBounds]; exact hI.size, hdef', hsize', hput, ?_⟩ hsl' hc'
        have hmk : (listed.setIfInBounds i true).getD p false = listed.getD p false := by rw [getD_mark, if_neg (fun h => hip h.1)]
        rw [hmk]; exact hI.world
/-- what differs between two frames: at most the temporaries that the region writes -/
def Agree (ds : List Nat) : Nat → List Value → List Value → Prop
  | _, [], [] => True
  | t, x :: xs, y :: ys => (if ds.contains t then True else x = y) ∧ Agree ds (t + 1) xs ys
  | _, _, _ => False
theorem Agree.get {ds : List Nat} : ∀ {l m : List Value} {k : Nat}, Agree ds k l m → l.length = m.length ∧ ∀ t : Nat, k + t ∉ ds → l[t]? = m[t]?
  | [], [], k, _ => ⟨rfl, fun t _ => rfl⟩
  | x :: xs, y :: ys, k, h => by
    obtain ⟨h1, h2⟩ := Agree.get h.2
    refine ⟨by simp [h1], fun t ht => ?_⟩
    cases t with
    | zero =>
      have := h.1
      rw [if_neg (by simpa using ht)] at this
      simp [this]
    | succ t =>
      have := h2 t (by rw [Nat.add_assoc, Nat.add_comm 1 t]; exact ht)
      simpa using this
  | [], _ :: _, _, h => h.elim
  | _ :: _, [], _, h => h.elim
def writes (ops : Array Oper) : List Nat := ops.toList.filterMap (·.dst)
/-- one operation's word, of each of a list -/
def EachOp (G : Nat → Oper → Tmp → Prop) : Nat → List Oper → Prop
  | _, [] => True
  | i, o :: l => (match o.dst with | some d => G i o d | none => True) ∧ EachOp G (i + 1) l
theorem eachOp_get {G : Nat → Oper → Tmp → Prop} : ∀ {l : List Oper} {k : Nat}, EachOp G k l → ∀ (i : Nat) (o : Oper) (d : Tmp), l.toArray[i]? = some o → o.dst = some d → G (k + i) o d
  | [], _, _, i, o, d, hi, _ => by simp at hi
  | x :: l, k, h, i, o, d, hi, hd => by
    cases i with
    | zero =>
      simp only [List.getElem?_toArray, List.getElem?_cons_zero, Option.some.injEq] at hi
      subst hi
      have := h.1
      rw [hd] at this
      exact this
    | succ i =>
      have := eachOp_get h.2 i o d (by simpa using hi) hd
      rwa [Nat.add_assoc, Nat.add_comm 1 i] at this
theorem region_plan {F : Fence} {n : Nat} {P : Program} {id : Nat} {l : List Oper} {Q : Exit → Act → World → Prop} (p s : Nat) (aF : Act) (W1 : World) {a : Act} {w : World} (hm : P.follows .mixedOrders = true)
    (hp : planB l.toArray s = true) (hps : p ≠ s) (hpp : p < l.toArray.size) {o : Oper} (ho : l.toArray[s]? = some o) (hod : o.dst = none)
    (hd : a.defers = aF.defers) (ha : Agree (writes l.toArray) 0 a.tmps.toList aF.tmps.toList)
    (hrun : EachOp (fun i o d => ∀ W, (∀ f, o.about P W aF.eval = some f → F.fn f) ∧ (i ≠ p → (W = w.drew ∨ W = W1) → (execOp aF.eval o).run P W = .ok (.value (aF.eval (.tmp d))) W) ∧ (i = p → W = w.drew → (execOp aF.eval o).run P W = .ok (.value (aF.eval (.tmp d))) W1)) 0 l)
    (hlast0 : wpListIn F n P l.toArray Q [o] aF W1) : (Code.region id l.toArray true).wpIn F n P Q a w := by
  have hg := (plan_spec hp ho).guard
  have hlast : o.wpIn F n P aF W1 (fun a w => Q .normal a w) Q := by
    unfold wpListIn at hlast0
    rw [if_pos (by simp [Region.wanted, hg])] at hlast0
    exact hlast0
  have hslt := (Array.getElem?_eq_some_iff.1 ho).1
  obtain ⟨g1, g2⟩ := ha.get
  refine wpIn_region_any hm (plan_walk (W0 := w.drew) (W1 := W1) hp hps hslt hpp (fun o' ho' => by rw [ho] at ho'; cases ho'; exact hod) (fun i o d hi _ hd => by simpa using eachOp_get hrun i o d hi hd) (fun o' ho' => by rw [ho] at ho'; cases ho'; exact hlast) _ _ _ _ ⟨by simp, hd, by simpa using g1, fun t ht => ?_, ?_⟩ ?_ ?_)
  · by_cases hw : t ∈ writes l.toArray
    · obtain ⟨oj, hoj, hd⟩ := List.mem_filterMap.1 hw
      obtain ⟨j, hj, rfl⟩ := List.mem_iff_getElem.1 hoj
      have := ht j _ (by simp at hj ⊢) hd
      rw [Array.getD_eq_getD_getElem?, Array.getElem?_replicate] at this
      split at this <;> simp at this
    · have := g2 t (by simpa using hw)
      simpa using this
  · rw [Array.getD_eq_getD_getElem?, Array.getElem?_replicate, if_pos hpp]; rfl
  · rw [Array.getD_eq_getD_getElem?, Array.getElem?_replicate, if_pos hslt]; rfl
  · exact Nat.le_trans (List.length_filter_le _ _) (by simp)
theorem reads_walk {F : Fence} {n : Nat} {P : Program} {ops : Array Oper} {Q : Exit → Act → World → Prop} {aF : Act} {W0 : World} (hp : planB ops ops.size = true)
    (hrun : ∀ (i : Nat) (o : Oper) (d : Tmp), ops[i]? = some o → o.dst = some d → (∀ f, o.about P W0 aF.eval = some f → F.fn f) ∧ (execOp aF.eval o).run P W0 = .ok (.value (aF.eval (.tmp d))) W0)
    (hQ : Q .normal aF W0) :
    ∀ (fuel : Nat) (listed : Array Bool) (a : Act) (w : World), PlanInv ops 0 aF W0 W0 listed a w → ((List.range ops.size).filter fun i => !listed.getD i true).length ≤ fuel → wpAnyIn F n P .any ops Q fuel listed a w := by
  have fin : ∀ (listed : Array Bool) (a : Act) (w : World), PlanInv ops 0 aF W0 W0 listed a w → Region.ready .any ops listed = [] → Q .normal a w := by
    intro listed a w hI h0
    have hall : ∀ j, listed.getD j true = true := fun j => by
      cases hj : listed.getD j true with
      | true => rfl
      | false => exact absurd h0 (unlisted_ready hp hI.size j hj)
    have hw : w = W0 := by rw [hI.world]; split <;> rfl
    have haF : a = aF := by
      have ht : a.tmps = aF.tmps := by
        refine Array.ext_getElem? fun t => hI.tmps t fun j oj hj hd => ?_
        have hlt := (Array.getElem?_eq_some_iff.1 hj).1
        have := hall j
        rw [Array.getD_eq_getD_getElem?, Array.getElem?_eq_getElem (by rw [hI.size]; exact hlt)] at this ⊢
        simpa using this
      cases a; cases aF
      simp only at ht
      have := hI.defers
      simp only at this
      rw [ht, this]
    rw [haF, hw]; exact hQ
  intro fuel
  induction fuel with
  | zero =>
    intro listed a w hI hc
    have h0 : (List.range ops.size).filter (fun i => !listed.getD i true) = [] := List.length_eq_zero_iff.1 (by omega)
    have hr : Region.ready .any ops listed = [] := by
      refine List.filter_eq_nil_iff.2 fun j hj => ?_
      have := List.filter_eq_nil_iff.1 h0 j hj
      simp only [Bool.not_eq_true', Bool.not_eq_false] at this
      simp [this]
    exact ⟨hr, fin listed a w hI hr⟩
  | succ fuel ih =>
    intro listed a w hI hc
    refine ⟨fun h0 => fin listed a w hI h0, fun i hi => ?_⟩
    obtain ⟨hil, o, ho, hafter⟩ := mem_ready.1 hi
    have hP := plan_spec hp ho
    have hlt : i < ops.size := (Array.getElem?_eq_some_iff.1 ho).1
    have hw : w = W0 := by rw [hI.world]; split <;> rfl
    have hsame : ∀ x ∈ o.op.operands, a.eval x = aF.eval x := by
      intro x hx
      cases x with
      | tmp t =>
        have := hI.tmps t fun j oj hj hd => by
          obtain ⟨e, he, hb, rfl⟩ := hP.reads t hx j oj hj hd
          exact hafter e he hb
        simp only [Act.eval, Array.getD_eq_getD_getElem?, this]
      | _ => rfl
    have hex := execOp_congr o hP.nosel hsame
    have hab := about_congr (P := P) o w hsame
    have hwant : Region.wanted o (yielded ops a.tmps) = true := by simp [Region.wanted, hP.guard]
    unfold wpOpIn
    simp only [ho, hwant, if_true]
    obtain ⟨d, hd⟩ := hP.dst (by omega)
    have hr := hrun i o d ho hd
    have hc' : ((List.range ops.size).filter fun j => !(listed.setIfInBounds i true).getD j true).length ≤ fuel := by
      have := unlisted_less (N := ops.size) hlt hil
      omega
    have hsemat : (o.semAt F.round a.eval).run P w = (execOp aF.eval o).run P w := by rw [Oper.semAt_eq _ _ _ hP.nodefer, hex]
    unfold Oper.wpIn
    rw [hab, hsemat, hw]
    refine ⟨hr.1, ?_⟩
    rw [hr.2]
    refine ih _ _ _ ⟨by rw [Array.size_setIfInBounds]; exact hI.size, by rw [hd]; exact hI.defers, ?_, ?_, by split <;> rfl⟩ hc'
    · rw [hd]; show (a.tmps.setIfInBounds d _).size = _
      rw [Array.size_setIfInBounds, hI.tsize]
    · intro t ht
      rw [hd]
      show (a.tmps.setIfInBounds d _)[t]? = _
      rw [Array.getElem?_setIfInBounds]
      by_cases hdt : d = t
      · subst hdt
        by_cases hlt2 : d < a.tmps.size
        · have hlt3 : d < aF.tmps.size := by rw [← hI.tsize]; exact hlt2
          rw [if_pos rfl, if_pos hlt2, Array.getElem?_eq_getElem hlt3]
          simp [Act.eval, Array.getD, hlt3]
        · have hlt3 : ¬ d < aF.tmps.size := by rw [← hI.tsize]; exact hlt2
          rw [if_pos rfl, if_neg hlt2, Array.getElem?_eq_none (Nat.le_of_not_lt hlt3)]
      · rw [if_neg hdt]
        refine hI.tmps t fun j oj hj hjd => ?_
        have h1 := ht j oj hj hjd
        rw [getD_mark, if_neg] at h1
        · exact h1
        · rintro ⟨rfl, _⟩
          rw [ho] at hj; cases hj
          rw [hd] at hjd; cases hjd; exact hdt rfl
theorem region_reads {F : Fence} {n : Nat} {P : Program} {id : Nat} {l : List Oper} {Q : Exit → Act → World → Prop} (aF : Act) {a : Act} {w : World} (hm : P.follows .mixedOrders = true)
    (hp : planB l.toArray l.toArray.size = true) (hd : a.defers = aF.defers) (ha : Agree (writes l.toArray) 0 a.tmps.toList aF.tmps.toList)
    (hrun : EachOp (fun _ o d => (∀ f, o.about P w.drew aF.eval = some f → F.fn f) ∧ (execOp aF.eval o).run P w.drew = .ok (.value (aF.eval (.tmp d))) w.drew) 0 l)
    (hQ : Q .normal aF w.drew) :
    (Code.region id l.toArray true).wpIn F n P Q a w := by
  obtain ⟨g1, g2⟩ := ha.get
  refine wpIn_region_any hm (reads_walk (W0 := w.drew) hp (fun i o d hi hd => eachOp_get hrun i o d hi hd) hQ _ _ _ _ ⟨by simp, hd, by simpa using g1, fun t ht => ?_, by split <;> rfl⟩ ?_)
  · by_cases hw : t ∈ writes l.toArray
    · obtain ⟨oj, hoj, hd⟩ := List.mem_filterMap.1 hw
      obtain ⟨j, hj, rfl⟩ := List.mem_iff_getElem.1 hoj
      have := ht j _ (by simp at hj ⊢) hd
      rw [Array.getD_eq_getD_getElem?, Array.getElem?_replicate] at this
      split at this <;> simp at this
    · have := g2 t (by simpa using hw)
      simpa using this
  · exact Nat.le_trans (List.length_filter_le _ _) (by simp)
end Go.Proofs.YtfeenkofnbefaaaGreatDoor
