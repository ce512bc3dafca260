/- A region that draws its order, whose last operation stands behind all others and may do what it will (write what others read, store, append): all others come to values. No program in sight. -/
import Derived.Test.YtfeenkofnbefaaaGreatDoorMono
set_option linter.unusedSectionVars false
set_option linter.unusedSimpArgs false
set_option linter.unusedVariables false
namespace Go.Proofs.YtfeenkofnbefaaaGreatDoor
open Go Go.RowKit
set_option linter.unusedVariables false
/-- what the kernel checks of the region; s is the last, and behind all -/
def planS (ops : Array Oper) (s : Nat) : Bool :=
  (List.range ops.size).all fun i => match ops[i]? with
    | none => false
    | some o =>
      o.guard.isNone &&
      (match o.op with | .defer _ => false | .select _ _ => false | _ => true) &&
      o.after.all (fun e => !Region.binds .any e || decide (e.on < i)) &&
      (i == s || o.dst.isSome) &&
      (o.op.operands.toList.all fun | .tmp t => (List.range ops.size).all (fun j => j == s || match ops[j]? with | some oj => oj.dst != some t || o.after.any (fun e => Region.binds .any e && e.on == j) | none => true) | _ => true) &&
      (i != s || (List.range ops.size).all fun j => j == i || o.after.any (fun e => Region.binds .any e && e.on == j))
structure PlanSOf (ops : Array Oper) (s i : Nat) (o : Oper) : Prop where
  guard : o.guard = none
  nodefer : ∀ c, o.op ≠ .defer c
  nosel : ∀ cs b, o.op ≠ .select cs b
  back : ∀ e ∈ o.after, Region.binds .any e = true → e.on < i
  dst : i ≠ s → ∃ d, o.dst = some d
  reads : ∀ t, Operand.tmp t ∈ o.op.operands → ∀ j oj, j ≠ s → ops[j]? = some oj → oj.dst = some t → ∃ e ∈ o.after, Region.binds .any e = true ∧ e.on = j
  last : i = s → ∀ j oj, ops[j]? = some oj → j ≠ i → ∃ e ∈ o.after, Region.binds .any e = true ∧ e.on = j
theorem planS_spec {ops : Array Oper} {s : Nat} (h : planS ops s = true) {i : Nat} {o : Oper} (hi : ops[i]? = some o) : PlanSOf ops s i o := by
  have hlt : i < ops.size := (Array.getElem?_eq_some_iff.1 hi).1
  have h := List.all_eq_true.1 h i (List.mem_range.2 hlt)
  simp only [hi, Bool.and_eq_true, Bool.or_eq_true, bne_iff_ne, beq_iff_eq] at h
  obtain ⟨⟨⟨⟨⟨h1, h2⟩, h3⟩, h4⟩, h5⟩, h7⟩ := h
  refine ⟨by simpa using h1, ?_, ?_, ?_, ?_, ?_, ?_⟩
  · intro c hc
    simp [hc] at h2
  · intro e he hb
    simp [hb] at h2
  · intro e he hb
    have := Array.all_eq_true_iff_forall_mem.1 h3 e he
    simpa [hb] using this
  · intro hs
    rcases h4 with h4 | h4
    · exact absurd h4 hs
    · exact Option.isSome_iff_exists.1 h4
  · intro t ht j oj hjs hj hd
    have h := List.all_eq_true.1 h5 (.tmp t) (by simpa using ht)
    have h := List.all_eq_true.1 h j (List.mem_range.2 (Array.getElem?_eq_some_iff.1 hj).1)
    have hjb : (j == s) = false := by rw [beq_eq_false_iff_ne]; exact hjs
    simp only [hj, hd, hjb, bne_self_eq_false, Bool.false_or] at h
    obtain ⟨k, hk, h⟩ := Array.any_eq_true.1 h
    simp only [Bool.and_eq_true, beq_iff_eq] at h
    exact ⟨o.after[k], Array.getElem_mem hk, h.1, h.2⟩
  · intro hs j oj hj hne
    rcases h7 with h7 | h7
    · exact absurd hs h7
    have h := List.all_eq_true.1 h7 j (List.mem_range.2 (Array.getElem?_eq_some_iff.1 hj).1)
    simp only [Bool.or_eq_true, beq_iff_eq, hne, false_or] at h
    obtain ⟨k, hk, h⟩ := Array.any_eq_true.1 h
    simp only [Bool.and_eq_true, beq_iff_eq] at h
    exact ⟨o.after[k], Array.getElem_mem hk, h.1, h.2⟩
theorem unlisted_readyS {ops : Array Oper} {s : Nat} (hp : planS ops s = true) {listed : Array Bool} (hsz : listed.size = ops.size) (k : Nat) (hk : listed.getD k true = false) : Region.ready .any ops listed ≠ [] := by
  induction k using Nat.strongRecOn with
  | _ k ih =>
    have hlt : k < ops.size := by
      rcases Nat.lt_or_ge k listed.size with h | h
      · omega
      · rw [Array.getD_eq_getD_getElem?, Array.getElem?_eq_none h] at hk
        cases hk
    by_cases hall : ∀ e ∈ (ops[k]).after, Region.binds .any e = true → listed.getD e.on false = true
    · have : k ∈ Region.ready .any ops listed := mem_ready.2 ⟨hk, ops[k], by simp [hlt], hall⟩
      intro e; rw [e] at this; cases this
    · simp only [Classical.not_forall] at hall
      obtain ⟨e, he, hb, hn⟩ := hall
      have hlt2 := (planS_spec hp (show ops[k]? = some ops[k] by simp [hlt])).back e he hb
      refine ih e.on hlt2 ?_
      have : e.on < listed.size := by omega
      rw [Array.getD_eq_getD_getElem?, Array.getElem?_eq_getElem this] at hn ⊢
      simpa using hn
structure LastInv (ops : Array Oper) (s : Nat) (S : Nat → Value → World → Prop) (Ctx : World → Prop) (a0 : Act) (listed : Array Bool) (a : Act) (w : World) : Prop where
  size : listed.size = ops.size
  defers : a.defers = a0.defers
  tsize : a.tmps.size = a0.tmps.size
  vals : ∀ t : Nat, (∀ (j : Nat) oj, j ≠ s → ops[j]? = some oj → oj.dst = some t → listed.getD j false = true) → S t (a.eval (.tmp t)) w
  ctx : Ctx w
theorem last_walk {F : Fence} {n : Nat} {P : Program} {ops : Array Oper} {Q : Exit → Act → World → Prop} {s : Nat} {S : Nat → Value → World → Prop} {Ctx : World → Prop} {a0 : Act} (hp : planS ops s = true) (hs : s < ops.size)
    (hS : ∀ t v w w', S t v w → Below w.heap.size w w' → S t v w') (hC : ∀ w w', Ctx w → Below w.heap.size w w' → Ctx w')
    (hrun : ∀ (i : Nat) (o : Oper) (d : Tmp), i ≠ s → ops[i]? = some o → o.dst = some d → d < a0.tmps.size ∧ MonoOp F n P Q S Ctx a0.tmps.size o d)
    (hlast : ∀ o a w, ops[s]? = some o → Ctx w → (∀ t, S t (a.eval (.tmp t)) w) → a.tmps.size = a0.tmps.size → a.defers = a0.defers → o.wpIn F n P a w (fun a w => Q .normal a w) Q) :
    ∀ (fuel : Nat) (listed : Array Bool) (a : Act) (w : World), LastInv ops s S Ctx a0 listed a w → listed.getD s true = false → ((List.range ops.size).filter fun i => !listed.getD i true).length ≤ fuel → wpAnyIn F n P .any ops Q fuel listed a w := by
  intro fuel
  induction fuel with
  | zero =>
    intro listed a w hI hsl hc
    have : s ∈ (List.range ops.size).filter fun i => !listed.getD i true := List.mem_filter.2 ⟨List.mem_range.2 hs, by rw [hsl]; rfl⟩
    have h0 : (List.range ops.size).filter (fun i => !listed.getD i true) = [] := List.length_eq_zero_iff.1 (by omega)
    rw [h0] at this; cases this
  | succ fuel ih =>
    intro listed a w hI hsl hc
    refine ⟨fun h0 => absurd h0 (unlisted_readyS hp hI.size s hsl), fun i hi => ?_⟩
    obtain ⟨hil, o, ho, hafter⟩ := mem_ready.1 hi
    have hP := planS_spec hp ho
    have hlt : i < ops.size := (Array.getElem?_eq_some_iff.1 ho).1
    have hwant : Region.wanted o (yielded ops a.tmps) = true := by simp [Region.wanted, hP.guard]
    unfold wpOpIn
    simp only [ho, hwant, if_true]
    by_cases his : i = s
    · subst his
      have hall : ∀ j oj, ops[j]? = some oj → j ≠ i → listed.getD j false = true := fun j oj hj hne => by
        obtain ⟨e, he, hb, rfl⟩ := hP.last rfl j oj hj hne
        exact hafter e he hb
      refine Oper.wpIn_mono (fun a' w' h => ?_) (hlast o a w ho hI.ctx (fun t => hI.vals t fun j oj hne hj _ => hall j oj hj hne) hI.tsize hI.defers)
      refine wpAnyIn_done ?_ h _
      refine List.filter_eq_nil_iff.2 fun j hj => ?_
      have hj := List.mem_range.1 hj
      have : (listed.setIfInBounds i true).getD j true = true := by
        rw [getD_mark]
        by_cases h : i = j
        · subst h; simp [hI.size, hlt]
        · have h1 := hall j ops[j] (by simp [hj]) (fun e => h e.symm)
          rw [Array.getD_eq_getD_getElem?, Array.getElem?_eq_getElem (by rw [hI.size]; exact hj)] at h1
          rw [if_neg (by simp [h]), Array.getD_eq_getD_getElem?, Array.getElem?_eq_getElem (by rw [hI.size]; exact hj)]
          simpa using h1
      simp [this]
    · obtain ⟨d, hd⟩ := hP.dst his
      obtain ⟨hdlt, hr⟩ := hrun i o d his ho hd
      have hsl' : (listed.setIfInBounds i true).getD s true = false := by rw [getD_mark, if_neg (by simp [his]), hsl]
      have hc' : ((List.range ops.size).filter fun j => !(listed.setIfInBounds i true).getD j true).length ≤ fuel := by
        have := unlisted_less (N := ops.size) hlt hil
        omega
      refine Oper.wpIn_mono (fun a' w' h => ?_) (hr a w hI.ctx hI.tsize fun t ht => hI.vals t fun j oj hne hj hjd => ?_)
      · obtain ⟨v, rfl, hv, hb⟩ := h
        refine ih _ _ _ ⟨by rw [Array.size_setIfInBounds]; exact hI.size, by rw [hd]; exact hI.defers, ?_, ?_, hC w w' hI.ctx hb⟩ hsl' hc'
        · rw [hd]; show (a.tmps.setIfInBounds d _).size = _
          rw [Array.size_setIfInBounds, hI.tsize]
        · intro t ht
          rw [hd]
          by_cases hdt : d = t
          · subst hdt
            have : (a.put (some d) v).eval (.tmp d) = v := by
              show (a.tmps.setIfInBounds d v).getD d undef = v
              have : d < a.tmps.size := by rw [hI.tsize]; exact hdlt
              simp [Array.getD, this]
            rw [this]; exact hv
          · have he : (a.put (some d) v).eval (.tmp t) = a.eval (.tmp t) := by
              show (a.tmps.setIfInBounds d v).getD t undef = a.tmps.getD t undef
              rw [Array.getD_eq_getD_getElem?, Array.getElem?_setIfInBounds, if_neg hdt, Array.getD_eq_getD_getElem?]
            rw [he]
            refine hS _ _ _ _ (hI.vals t fun j oj hne hj hjd => ?_) hb
            have h1 := ht j oj hne hj hjd
            rw [getD_mark, if_neg] at h1
            · exact h1
            · rintro ⟨rfl, _⟩
              rw [ho] at hj; cases hj
              rw [hd] at hjd; cases hjd; exact hdt rfl
      · obtain ⟨e, he, hb, rfl⟩ := hP.reads t ht j oj hne hj hjd
        exact hafter e he hb
def writesBut (ops : Array Oper) (s : Nat) : List Nat := (ops.toList.take s).filterMap (·.dst)
/-- all but the last come to the values given; the last is walked -/
theorem region_last {F : Fence} {n : Nat} {P : Program} {id : Nat} {l : List Oper} {Q : Exit → Act → World → Prop} (s : Nat) (ps : List (Nat × Value)) {aF : Act} (Ctx : World → Prop) {a : Act} {w : World} (haF : putAll a ps = aF) (hm : P.follows .mixedOrders = true)
    (hs : s + 1 = l.length) (hk : (ps.map (·.1)).all (fun t => (writesBut l.toArray s).contains t) = true)
    (hp : planS l.toArray s = true) (hC : ∀ w w', Ctx w → Below w.heap.size w w' → Ctx w')
    (h0 : Ctx w.drew)
    (hrun : EachOp (fun _ o d => d < aF.tmps.size ∧ ∀ w, Ctx w → (∀ f, o.about P w aF.eval = some f → F.fn f) ∧ OpTo F n P aF o d w) 0 (l.take s))
    {o : Oper} (ho : l[s]? = some o) (hlast : ∀ w', Ctx w' → wpListIn F n P l.toArray Q [o] aF w') :
    (Code.region id l.toArray true).wpIn F n P Q a w := by
  subst haF
  have hsz : a.tmps.size = (putAll a ps).tmps.size := (putAll_size a ps).symm
  have hkeep : ∀ t : Nat, t ∉ writesBut l.toArray s → a.tmps[t]? = (putAll a ps).tmps[t]? := fun t ht => by
    have := putAll_get a ps t fun h => by
      have := List.all_eq_true.1 hk t h
      exact ht (by simpa using this)
    exact this.symm
  refine wpIn_region_any hm (last_walk (a0 := a) (s := s) (S := fun t v _ => v = (putAll a ps).eval (.tmp t)) (Ctx := Ctx) hp (by simp; omega) (fun _ _ _ _ h _ => h) hC (fun i o d his hi hod => ?_) (fun o' a' w' hi hc hS hss hdd => ?_) _ _ _ _ ⟨by simp, rfl, rfl, fun t ht => ?_, h0⟩ ?_ ?_)
  · have hP := planS_spec hp hi
    have hil : i < l.length := by simpa using (Array.getElem?_eq_some_iff.1 hi).1
    obtain ⟨hlt, hr⟩ := eachOp_get hrun i o d (by
      rw [List.getElem?_toArray, List.getElem?_take, if_pos (by omega)]
      simpa using hi) hod
    refine ⟨by rw [hsz]; exact hlt, fun a2 w hc hN hR => ?_⟩
    have hsame : ∀ x ∈ o.op.operands, a2.eval x = (putAll a ps).eval x := by
      intro x hx
      cases x with
      | tmp t => exact hR t hx
      | _ => rfl
    have hex := execOp_congr o hP.nosel hsame
    have hab := about_congr (P := P) o w hsame
    obtain ⟨h1, h2⟩ := hr w hc
    unfold Oper.wpIn
    rw [hab, Oper.semAt_eq _ _ _ hP.nodefer, hex]
    refine ⟨h1, ?_⟩
    unfold OpTo at h2
    split at h2
    · rename_i v w' heq
      rw [heq]
      exact ⟨v, rfl, h2.1, h2.2⟩
    · rename_i f args w' heq
      rw [heq]
      refine ⟨h2.1, h2.2.mono ?_⟩
      rintro e w'' ⟨rfl, hb⟩
      exact ⟨_, rfl, rfl, hb⟩
    · exact h2.elim
  · have haF : a' = putAll a ps := by
      have ht : a'.tmps = (putAll a ps).tmps := by
        refine Array.ext_getElem? fun t => ?_
        have h1 := hS t
        by_cases hlt : t < (putAll a ps).tmps.size
        · have hlt2 : t < a'.tmps.size := by omega
          simp only [Act.eval, Array.getD_eq_getD_getElem?, Array.getElem?_eq_getElem hlt, Array.getElem?_eq_getElem hlt2, Option.getD_some] at h1
          rw [Array.getElem?_eq_getElem hlt, Array.getElem?_eq_getElem hlt2, h1]
        · rw [Array.getElem?_eq_none (by omega), Array.getElem?_eq_none (by omega)]
      have hd2 : a'.defers = (putAll a ps).defers := hdd
      cases a'
      generalize putAll a ps = aF at *
      cases aF
      simp only at ht hd2
      rw [ht, hd2]
    rw [haF]
    obtain rfl : o' = o := by
      have : l[s]? = some o' := by simpa using hi
      rw [ho] at this; exact (Option.some.inj this).symm
    have hl := hlast w' hc
    unfold wpListIn at hl
    rw [if_pos (by simp [Region.wanted, (planS_spec hp hi).guard])] at hl
    exact hl
  · have hw : t ∉ writesBut l.toArray s := by
      intro hw
      obtain ⟨oj, hoj, hd⟩ := List.mem_filterMap.1 hw
      obtain ⟨j, hj, rfl⟩ := List.mem_iff_getElem.1 hoj
      have hjs : j < s := by simp at hj; omega
      have hjl : j < l.length := by omega
      have := ht j _ (by omega) (show l.toArray[j]? = some l[j] by simp [hjl]) (by simpa using hd)
      rw [Array.getD_eq_getD_getElem?, Array.getElem?_replicate] at this
      split at this <;> simp at this
    have e := hkeep t hw
    simp only [Act.eval, Array.getD_eq_getD_getElem?]
    rw [e]
  · have hsl : s < l.toArray.size := by simp; omega
    rw [Array.getD_eq_getD_getElem?, Array.getElem?_replicate, if_pos hsl]; rfl
  · exact Nat.le_trans (List.length_filter_le _ _) (by simp)
end Go.Proofs.YtfeenkofnbefaaaGreatDoor
