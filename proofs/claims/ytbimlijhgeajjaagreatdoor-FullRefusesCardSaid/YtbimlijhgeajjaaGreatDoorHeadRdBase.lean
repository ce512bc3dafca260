/- A region that draws its order, whose last operation stands behind all others and may do what it will (write what others read, store, append): all others come to values. No program in sight. -/
import Derived.Test.YtbimlijhgeajjaaGreatDoorMono
import Derived.Test.YtbimlijhgeajjaaGreatDoorHeadRdPure
import Derived.Test.YtbimlijhgeajjaaGreatDoorHeadWr
set_option linter.unusedSectionVars false
set_option linter.unusedSimpArgs false
set_option linter.unusedVariables false
namespace Go.Proofs.YtbimlijhgeajjaaGreatDoor
open Go Go.RowKit
set_option linter.unusedVariables false
/-- what the kernel checks of the region; s is the last, and behind all -/
def planS (ops : Array Oper) (s : Nat) : Bool :=
  (List.range ops.size).all fun i => match ops[i]? with
    | none => false
    | some o =>
      o.guard.isNone &&
      (match o.op with | .defer _ => false | .select _ _ => false | _ => true) &&
      o.after.all (fun e => !Region.binds .any e || decide (e.on < i)) &&
      (i == s || o.dst.isSome) &&
      (o.op.operands.toList.all fun | .tmp t => (List.range ops.size).all (fun j => j == s || match ops[j]? with | some oj => oj.dst != some t || o.after.any (fun e => Region.binds .any e && e.on == j) | none => true) | _ => true) &&
      (i != s || (List.range ops.size).all fun j => j == i || o.after.any (fun e => Region.binds .any e && e.on == j))
structure PlanSOf (ops : Array Oper) (s i : Nat) (o : Oper) : Prop where
  guard : o.guard = none
  nodefer : ∀ c, o.op ≠ .defer c
  nosel : ∀ cs b, o.op ≠ .select cs b
  back : ∀ e ∈ o.after, Region.binds .any e = true → e.on < i
  dst : i ≠ s → ∃ d, o.dst = some d
  reads : ∀ t, Operand.tmp t ∈ o.op.operands → ∀ j oj, j ≠ s → ops[j]? = some oj → oj.dst = some t → ∃ e ∈ o.after, Region.binds .any e = true ∧ e.on = j
  last : i = s → ∀ j oj, ops[j]? = some oj → j ≠ i → ∃ e ∈ o.after, Region.binds .any e = true ∧ e.on = j
theorem planS_spec {ops : Array Oper} {s : Nat} (h : planS ops s = true) {i : Nat} {o : Oper} (hi : ops[i]? = some o) : PlanSOf ops s i o := by
  have hlt : i < ops.size := (Array.getElem?_eq_some_iff.1 hi).1
  have h := List.all_eq_true.1 h i (List.mem_range.2 hlt)
  simp only [hi, Bool.and_eq_true, Bool.or_eq_true, bne_iff_ne, beq_iff_eq] at h
  obtain ⟨⟨⟨⟨⟨h1, h2⟩, h3⟩, h4⟩, h5⟩, h7⟩ := h
  refine ⟨by simpa using h1, ?_, ?_, ?_, ?_, ?_, ?_⟩
  · intro c hc
    simp [hc] at h2
  · intro e he hb
    simp [hb] at h2
  · intro e he hb
    have := Array.all_eq_true_iff_forall_mem.1 h3 e he
    simpa [hb] using this
  · intro hs
    rcases h4 with h4 | h4
    · exact absurd h4 hs
    · exact Option.isSome_iff_exists.1 h4
  · intro t ht j oj hjs hj hd
    have h := List.all_eq_true.1 h5 (.tmp t) (by simpa using ht)
    have h := List.all_eq_true.1 h j (List.mem_range.2 (Array.getElem?_eq_some_iff.1 hj).1)
    have hjb : (j == s) = false := by rw [beq_eq_false_iff_ne]; exact hjs
    simp only [hj, hd, hjb, bne_self_eq_false, Bool.false_or] at h
    obtain ⟨k, hk, h⟩ := Array.any_eq_true.1 h
    simp only [Bool.and_eq_true, beq_iff_eq] at h
    exact ⟨o.after[k], Array.getElem_mem hk, h.1, h.2⟩
  · intro hs j oj hj hne
    rcases h7 with h7 | h7
    · exact absurd hs h7
    have h := List.all_eq_true.1 h7 j (List.mem_range.2 (Array.getElem?_eq_some_iff.1 hj).1)
    simp only [Bool.or_eq_true, beq_iff_eq, hne, false_or] at h
    obtain ⟨k, hk, h⟩ := Array.any_eq_true.1 h
    simp only [Bool.and_eq_true, beq_iff_eq] at h
    exact ⟨o.after[k], Array.getElem_mem hk, h.1, h.2⟩
theorem unlisted_readyS {ops : Array Oper} {s : Nat} (hp : planS ops s = true) {listed : Array Bool} (hsz : listed.size = ops.size) (k : Nat) (hk : listed.getD k true = false) : Region.ready .any ops listed ≠ [] := by
  induction k using Nat.strongRecOn with
  | _ k ih =>
    have hlt : k < ops.size := by
      rcases Nat.lt_or_ge k listed.size with h | h
      · omega
      · rw [Array.getD_eq_getD_getElem?, Array.getElem?_eq_none h] at hk
        cases hk
    by_cases hall : ∀ e ∈ (ops[k]).after, Region.binds .any e = true → listed.getD e.on false = true
    · have : k ∈ Region.ready .any ops listed := mem_ready.2 ⟨hk, ops[k], by simp [hlt], hall⟩
      intro e; rw [e] at this; cases this
    · simp only [Classical.not_forall] at hall
      obtain ⟨e, he, hb, hn⟩ := hall
      have hlt2 := (planS_spec hp (show ops[k]? = some ops[k] by simp [hlt])).back e he hb
      refine ih e.on hlt2 ?_
      have : e.on < listed.size := by omega
      rw [Array.getD_eq_getD_getElem?, Array.getElem?_eq_getElem this] at hn ⊢
      simpa using hn
structure LastInv (ops : Array Oper) (s : Nat) (S : Nat → Value → World → Prop) (Ctx : World → Prop) (a0 : Act) (listed : Array Bool) (a : Act) (w : World) : Prop where
  size : listed.size = ops.size
  defers : a.defers = a0.defers
  tsize : a.tmps.size = a0.tmps.size
  vals : ∀ t : Nat, (∀ (j : Nat) oj, j ≠ s → ops[j]? = some oj → oj.dst = some t → listed.getD j false = true) → S t (a.eval (.tmp t)) w
  ctx : Ctx w
theorem last_walk {F : Fence} {n : Nat} {P : Program} {ops : Array Oper} {Q : Exit → Act → World → Prop} {s : Nat} {S : Nat → Value → World → Prop} {Ctx : World → Prop} {a0 : Act} (hp : planS ops s = true) (hs : s < ops.size)
    (hS : ∀ t v w w', S t v w → Below w.heap.size w w' → S t v w') (hC : ∀ w w', Ctx w → Below w.heap.size w w' → Ctx w')
    (hrun : ∀ (i : Nat) (o : Oper) (d : Tmp), i ≠ s → ops[i]? = some o → o.dst = some d → d < a0.tmps.size ∧ MonoOp F n P Q S Ctx a0.tmps.size o d)
    (hlast : ∀ o a w, ops[s]? = some o → Ctx w → (∀ t, S t (a.eval (.tmp t)) w) → a.tmps.size = a0.tmps.size → a.defers = a0.defers → o.wpIn F n P a w (fun a w => Q .normal a w) Q) :
    ∀ (fuel : Nat) (listed : Array Bool) (a : Act) (w : World), LastInv ops s S Ctx a0 listed a w → listed.getD s true = false → ((List.range ops.size).filter fun i => !listed.getD i true).length ≤ fuel → wpAnyIn F n P .any ops Q fuel listed a w := by
  intro fuel
  induction fuel with
  | zero =>
    intro listed a w hI hsl hc
    have : s ∈ (List.range ops.size).filter fun i => !listed.getD i true := List.mem_filter.2 ⟨List.mem_range.2 hs, by rw [hsl]; rfl⟩
    have h0 : (List.range ops.size).filter (fun i => !listed.getD i true) = [] := List.length_eq_zero_iff.1 (by omega)
    rw [h0] at this; cases this
  | succ fuel ih =>
    intro listed a w hI hsl hc
    refine ⟨fun h0 => absurd h0 (unlisted_readyS hp hI.size s hsl), fun i hi => ?_⟩
    obtain ⟨hil, o, ho, hafter⟩ := mem_ready.1 hi
    have hP := planS_spec hp ho
    have hlt : i < ops.size := (Array.getElem?_eq_some_iff.1 ho).1
    have hwant : Region.wanted o (yielded ops a.tmps) = true := by simp [Region.wanted, hP.guard]
    unfold wpOpIn
    simp only [ho, hwant, if_true]
    by_cases his : i = s
    · subst his
      have hall : ∀ j oj, ops[j]? = some oj → j ≠ i → listed.getD j false = true := fun j oj hj hne => by
        obtain ⟨e, he, hb, rfl⟩ := hP.last rfl j oj hj hne
        exact hafter e he hb
      refine Oper.wpIn_mono (fun a' w' h => ?_) (hlast o a w ho hI.ctx (fun t => hI.vals t fun j oj hne hj _ => hall j oj hj hne) hI.tsize hI.defers)
      refine wpAnyIn_done ?_ h _
      refine List.filter_eq_nil_iff.2 fun j hj => ?_
      have hj := List.mem_range.1 hj
      have : (listed.setIfInBounds i true).getD j true = true := by
        rw [getD_mark]
        by_cases h : i = j
        · subst h; simp [hI.size, hlt]
        · have h1 := hall j ops[j] (by simp [hj]) (fun e => h e.symm)
          rw [Array.getD_eq_getD_getElem?, Array.getElem?_eq_getElem (by rw [hI.size]; exact hj)] at h1
          rw [if_neg (by simp [h]), Array.getD_eq_getD_getElem?, Array.getElem?_eq_getElem (by rw [hI.size]; exact hj)]
          simpa using h1
      simp [this]
    · obtain ⟨d, hd⟩ := hP.dst his
      obtain ⟨hdlt, hr⟩ := hrun i o d his ho hd
      have hsl' : (listed.setIfInBounds i true).getD s true = false := by rw [getD_mark, if_neg (by simp [his]), hsl]
      have hc' : ((List.range ops.size).filter fun j => !(listed.setIfInBounds i true).getD j true).length ≤ fuel := by
        have := unlisted_less (N := ops.size) hlt hil
        omega
      refine Oper.wpIn_mono (fun a' w' h => ?_) (hr a w hI.ctx hI.tsize fun t ht => hI.vals t fun j oj hne hj hjd => ?_)
      · obtain ⟨v, rfl, hv, hb⟩ := h
        refine ih _ _ _ ⟨by rw [Array.size_setIfInBounds]; exact hI.size, by rw [hd]; exact hI.defers, ?_, ?_, hC w w' hI.ctx hb⟩ hsl' hc'
        · rw [hd]; show (a.tmps.setIfInBounds d _).size = _
          rw [Array.size_setIfInBounds, hI.tsize]
        · intro t ht
          rw [hd]
          by_cases hdt : d = t
          · subst hdt
            have : (a.put (some d) v).eval (.tmp d) = v := by
              show (a.tmps.setIfInBounds d v).getD d undef = v
              have : d < a.tmps.size := by rw [hI.tsize]; exact hdlt
              simp [Array.getD, this]
            rw [this]; exact hv
          · have he : (a.put (some d) v).eval (.tmp t) = a.eval (.tmp t) := by
              show (a.tmps.setIfInBounds d v).getD t undef = a.tmps.getD t undef
              rw [Array.getD_eq_getD_getElem?, Array.getElem?_setIfInBounds, if_neg hdt, Array.getD_eq_getD_getElem?]
            rw [he]
            refine hS _ _ _ _ (hI.vals t fun j oj hne hj hjd => ?_) hb
            have h1 := ht j oj hne hj hjd
            rw [getD_mark, if_neg] at h1
            · exact h1
            · rintro ⟨rfl, _⟩
              rw [ho] at hj; cases hj
              rw [hd] at hjd; cases hjd; exact hdt rfl
      · obtain ⟨e, he, hb, rfl⟩ := hP.reads t ht j oj hne hj hjd
        exact hafter e he hb
def writesBut (ops : Array Oper) (s : Nat) : List Nat := (ops.toList.take s).filterMap (·.dst)
/-- all but the last come to the values given; the last is walked -/
theorem region_last {F : Fence} {n : Nat} {P : Program} {id : Nat} {l : List Oper} {Q : Exit → Act → World → Prop} (s : Nat) (ps : List (Nat × Value)) {aF : Act} (Ctx : World → Prop) {a : Act} {w : World} (haF : putAll a ps = aF) (hm : P.follows .mixedOrders = true)
    (hs : s + 1 = l.length) (hk : (ps.map (·.1)).all (fun t => (writesBut l.toArray s).contains t) = true)
    (hp : planS l.toArray s = true) (hC : ∀ w w', Ctx w → Below w.heap.size w w' → Ctx w')
    (h0 : Ctx w.drew)
    (hrun : EachOp (fun _ o d => d < aF.tmps.size ∧ ∀ w, Ctx w → (∀ f, o.about P w aF.eval = some f → F.fn f) ∧ OpTo F n P aF o d w) 0 (l.take s))
    {o : Oper} (ho : l[s]? = some o) (hlast : ∀ w', Ctx w' → wpListIn F n P l.toArray Q [o] aF w') :
    (Code.region id l.toArray true).wpIn F n P Q a w := by
  subst haF
  have hsz : a.tmps.size = (putAll a ps).tmps.size := (putAll_size a ps).symm
  have hkeep : ∀ t : Nat, t ∉ writesBut l.toArray s → a.tmps[t]? = (putAll a ps).tmps[t]? := fun t ht => by
    have := putAll_get a ps t fun h => by
      have := List.all_eq_true.1 hk t h
      exact ht (by simpa using this)
    exact this.symm
  refine wpIn_region_any hm (last_walk (a0 := a) (s := s) (S := fun t v _ => v = (putAll a ps).eval (.tmp t)) (Ctx := Ctx) hp (by simp; omega) (fun _ _ _ _ h _ => h) hC (fun i o d his hi hod => ?_) (fun o' a' w' hi hc hS hss hdd => ?_) _ _ _ _ ⟨by simp, rfl, rfl, fun t ht => ?_, h0⟩ ?_ ?_)
  · have hP := planS_spec hp hi
    have hil : i < l.length := by simpa using (Array.getElem?_eq_some_iff.1 hi).1
    obtain ⟨hlt, hr⟩ := eachOp_get hrun i o d (by
      rw [List.getElem?_toArray, List.getElem?_take, if_pos (by omega)]
      simpa using hi) hod
    refine ⟨by rw [hsz]; exact hlt, fun a2 w hc hN hR => ?_⟩
    have hsame : ∀ x ∈ o.op.operands, a2.eval x = (putAll a ps).eval x := by
      intro x hx
      cases x with
      | tmp t => exact hR t hx
      | _ => rfl
    have hex := execOp_congr o hP.nosel hsame
    have hab := about_congr (P := P) o w hsame
    obtain ⟨h1, h2⟩ := hr w hc
    unfold Oper.wpIn
    rw [hab, Oper.semAt_eq _ _ _ hP.nodefer, hex]
    refine ⟨h1, ?_⟩
    unfold OpTo at h2
    split at h2
    · rename_i v w' heq
      rw [heq]
      exact ⟨v, rfl, h2.1, h2.2⟩
    · rename_i f args w' heq
      rw [heq]
      refine ⟨h2.1, h2.2.mono ?_⟩
      rintro e w'' ⟨rfl, hb⟩
      exact ⟨_, rfl, rfl, hb⟩
    · exact h2.elim
  · have haF : a' = putAll a ps := by
      have ht : a'.tmps = (putAll a ps).tmps := by
        refine Array.ext_getElem? fun t => ?_
        have h1 := hS t
        by_cases hlt : t < (putAll a ps).tmps.size
        · have hlt2 : t < a'.tmps.size := by omega
          simp only [Act.eval, Array.getD_eq_getD_getElem?, Array.getElem?_eq_getElem hlt, Array.getElem?_eq_getElem hlt2, Option.getD_some] at h1
          rw [Array.getElem?_eq_getElem hlt, Array.getElem?_eq_getElem hlt2, h1]
        · rw [Array.getElem?_eq_none (by omega), Array.getElem?_eq_none (by omega)]
      have hd2 : a'.defers = (putAll a ps).defers := hdd
      cases a'
      generalize putAll a ps = aF at *
      cases aF
      simp only at ht hd2
      rw [ht, hd2]
    rw [haF]
    obtain rfl : o' = o := by
      have : l[s]? = some o' := by simpa using hi
      rw [ho] at this; exact (Option.some.inj this).symm
    have hl := hlast w' hc
    unfold wpListIn at hl
    rw [if_pos (by simp [Region.wanted, (planS_spec hp hi).guard])] at hl
    exact hl
  · have hw : t ∉ writesBut l.toArray s := by
      intro hw
      obtain ⟨oj, hoj, hd⟩ := List.mem_filterMap.1 hw
      obtain ⟨j, hj, rfl⟩ := List.mem_iff_getElem.1 hoj
      have hjs : j < s := by simp at hj; omega
      have hjl : j < l.length := by omega
      have := ht j _ (by omega) (show l.toArray[j]? = some l[j] by simp [hjl]) (by simpa using hd)
      rw [Array.getD_eq_getD_getElem?, Array.getElem?_replicate] at this
      split at this <;> simp at this
    have e := hkeep t hw
    simp only [Act.eval, Array.getD_eq_getD_getElem?]
    rw [e]
  · have hsl : s < l.toArray.size := by simp; omega
    rw [Array.getD_eq_getD_getElem?, Array.getElem?_replicate, if_pos hsl]; rfl
  · exact Nat.le_trans (List.length_filter_le _ _) (by simp)
end Go.Proofs.YtbimlijhgeajjaaGreatDoor

namespace Go.Proofs.YtbimlijhgeajjaaGreatDoor
open Go Go.RowKit
set_option linter.unusedVariables false
/-- what an operation comes to: D: the temporaries of which R is known -/
def OpRel (D : List Nat) (R : Nat → Value → World → Prop) (F : Fence) (n : Nat) (P : Program) (aF : Act) (o : Oper) (d : Tmp) (w : World) : Prop :=
  match (execOp aF.eval o).run P w with
  | .ok (.value v) w' => (if d ∈ D then R d v w' else v = aF.eval (.tmp d)) ∧ Below w.heap.size w w'
  | .ok (.enter f args) w' => (F.depth.isSome = true → 1 ≤ n) ∧ CallsIn F (n - 1) P f args w' (fun e w'' => ∃ v, e = .returned v ∧ (if d ∈ D then R d v w'' else v = aF.eval (.tmp d)) ∧ Below w.heap.size w w'')
  | _ => False
/-- a frame, some slots written; g: the values of the slots of which a relation is known -/
def putRel (a : Act) (ps : List (Nat × Option Value)) (g : Nat → Value) : Act := putAll a (ps.map fun p => (p.1, p.2.getD (g p.1)))
/-- the last value that a list of slots gives one -/
def lastOf (t : Nat) (ps : List (Nat × Option Value)) : Option (Option Value) := ps.foldl (fun r p => if p.1 = t then some p.2 else r) none
theorem foldl_last (t : Nat) (ps : List (Nat × Option Value)) (g : Nat → Value) (x : Array Value) (r : Option (Option Value)) (h : x[t]? = match r with | some o => some (o.getD (g t)) | none => x[t]?) (hlt : t < x.size) :
    ((ps.map fun p => (p.1, p.2.getD (g p.1))).foldl (fun x p => x.setIfInBounds p.1 p.2) x)[t]? = match ps.foldl (fun r p => if p.1 = t then some p.2 else r) r with | some o => some (o.getD (g t)) | none => x[t]? := by
  induction ps generalizing x r with
  | nil => exact h
  | cons p ps ih =>
    simp only [List.map_cons, List.foldl_cons]
    by_cases hp : p.1 = t
    · rw [if_pos hp]
      have h2 : (x.setIfInBounds p.1 (p.2.getD (g p.1)))[t]? = some (p.2.getD (g t)) := by
        rw [Array.getElem?_setIfInBounds, if_pos hp, if_pos (by omega), hp]
      have := ih (x.setIfInBounds p.1 (p.2.getD (g p.1))) (some p.2) h2 (by simpa using hlt)
      rw [this]
      have hn : ∀ (l : List (Nat × Option Value)) (q : Option Value), (l.foldl (fun r p => if p.1 = t then some p.2 else r) (some q)).isSome = true := by
        intro l
        induction l with
        | nil => intro q; rfl
        | cons y l ih => intro q; rw [List.foldl_cons]; split <;> exact ih _
      have := hn ps p.2
      cases hq : ps.foldl (fun r p => if p.1 = t then some p.2 else r) (some p.2) with
      | some o => rfl
      | none => rw [hq] at this; cases this
    · rw [if_neg hp]
      have h2 : (x.setIfInBounds p.1 (p.2.getD (g p.1)))[t]? = x[t]? := by
        rw [Array.getElem?_setIfInBounds, if_neg hp]
      have := ih (x.setIfInBounds p.1 (p.2.getD (g p.1))) r (by rw [h2]; exact h) (by simpa using hlt)
      rw [this, h2]
theorem putRel_get (a : Act) (ps : List (Nat × Option Value)) (g : Nat → Value) (t : Nat) (hlt : t < a.tmps.size) : (putRel a ps g).tmps[t]? = match lastOf t ps with | some o => some (o.getD (g t)) | none => a.tmps[t]? :=
  foldl_last t ps g a.tmps none rfl hlt
theorem putRel_size (a : Act) (ps : List (Nat × Option Value)) (g : Nat → Value) : (putRel a ps g).tmps.size = a.tmps.size := putAll_size a _
theorem putRel_eval (a : Act) (ps : List (Nat × Option Value)) (g : Nat → Value) (t : Nat) (hlt : t < a.tmps.size) : (putRel a ps g).eval (.tmp t) = match lastOf t ps with | some o => o.getD (g t) | none => a.eval (.tmp t) := by
  have := putRel_get a ps g t hlt
  simp only [Act.eval, Array.getD_eq_getD_getElem?, this]
  cases lastOf t ps <;> rfl
theorem lastOf_none {t : Nat} {ps : List (Nat × Option Value)} (h : t ∉ ps.map (·.1)) : lastOf t ps = none := by
  unfold lastOf
  have : ∀ (l : List (Nat × Option Value)) (r : Option (Option Value)), t ∉ l.map (·.1) → l.foldl (fun r p => if p.1 = t then some p.2 else r) r = r := by
    intro l
    induction l with
    | nil => intro r _; rfl
    | cons y l ih =>
      intro r h
      simp only [List.map_cons, List.mem_cons, not_or] at h
      rw [List.foldl_cons, if_neg (fun e => h.1 e.symm)]
      exact ih r h.2
  exact this ps none h
/-- the slots given without a value -/
def relSlots (ps : List (Nat × Option Value)) : List Nat := ps.filterMap fun p => if p.2.isNone then some p.1 else none
def SRel (a : Act) (ps : List (Nat × Option Value)) (R : Nat → Value → World → Prop) (t : Nat) (v : Value) (w : World) : Prop :=
  match lastOf t ps with
  | some none => R t v w
  | some (some u) => v = u
  | none => v = a.eval (.tmp t)
section
variable {F : Fence} {n : Nat} {P : Program} {id : Nat} {l : List Oper} {Q : Exit → Act → World → Prop} (D : List Nat) (R : Nat → Value → World → Prop) (ps : List (Nat × Option Value)) {aF : (Nat → Value) → Act} (Ctx : World → Prop) {a : Act} {w : World}
theorem rel_op (hD : ∀ t, t ∈ D ↔ lastOf t ps = some none) {o : Oper} {d : Tmp} (hnd : ∀ c, o.op ≠ .defer c) (hns : ∀ cs b, o.op ≠ .select cs b) (hd : o.dst = some d) (hopt : ∀ t, Operand.tmp t ∈ o.op.operands → t < a.tmps.size)
    (hr : d < a.tmps.size ∧ ∀ g w, Ctx w → (∀ t, t ∈ D → Operand.tmp t ∈ o.op.operands → R t (g t) w) → (∀ f, o.about P w (putRel a ps g).eval = some f → F.fn f) ∧ OpRel D R F n P (putRel a ps g) o d w) :
    MonoOp F n P Q (SRel a ps R) Ctx a.tmps.size o d := by
  intro a2 w hc hN hS
  let g : Nat → Value := fun t => a2.eval (.tmp t)
  have hev : ∀ t, t < a.tmps.size → SRel a ps R t (a2.eval (.tmp t)) w → a2.eval (.tmp t) = (putRel a ps g).eval (.tmp t) := by
    intro t ht hs
    rw [putRel_eval a ps g t ht]
    unfold SRel at hs
    cases hl : lastOf t ps with
    | none => rw [hl] at hs; exact hs
    | some o =>
      rw [hl] at hs
      cases o with
      | none => rfl
      | some u => exact hs
  have hsame : ∀ x ∈ o.op.operands, a2.eval x = (putRel a ps g).eval x := by
    intro x hx
    cases x with
    | tmp t => exact hev t (hopt t hx) (hS t hx)
    | _ => rfl
  obtain ⟨h1, h2⟩ := hr.2 g w hc fun t ht hto => by
    have := hS t hto
    unfold SRel at this
    rw [(hD t).1 ht] at this
    exact this
  have hex := execOp_congr o hns hsame
  have hab := about_congr (P := P) o w hsame
  have hT : ∀ v w', (if d ∈ D then R d v w' else v = (putRel a ps g).eval (.tmp d)) → SRel a ps R d v w' := by
    intro v w' h
    unfold SRel
    by_cases hdD : d ∈ D
    · rw [if_pos hdD] at h
      rw [(hD d).1 hdD]; exact h
    · rw [if_neg hdD, putRel_eval a ps g d hr.1] at h
      cases hl : lastOf d ps with
      | none => rw [hl] at h; exact h
      | some o =>
        rw [hl] at h
        cases o with
        | none => exact absurd ((hD d).2 hl) hdD
        | some u => exact h
  unfold Oper.wpIn
  rw [hab, Oper.semAt_eq _ _ _ hnd, hex]
  refine ⟨h1, ?_⟩
  unfold OpRel at h2
  split at h2
  · rename_i v w' heq
    rw [heq]
    exact ⟨v, rfl, hT v w' h2.1, h2.2⟩
  · rename_i f args w' heq
    rw [heq]
    refine ⟨h2.1, h2.2.mono ?_⟩
    rintro e w'' ⟨v, rfl, hv, hb⟩
    exact ⟨v, rfl, hT v w'' hv, hb⟩
  · exact h2.elim
theorem rel_end (hD : ∀ t, t ∈ D ↔ lastOf t ps = some none) (hDs : ∀ t ∈ D, t < a.tmps.size) {a2 : Act} (hS : ∀ t, SRel a ps R t (a2.eval (.tmp t)) w) (hs : a2.tmps.size = a.tmps.size) (hdd : a2.defers = a.defers) :
    a2 = putRel a ps (fun t => a2.eval (.tmp t)) ∧ ∀ t ∈ D, R t (a2.eval (.tmp t)) w := by
  constructor
  · have ht : a2.tmps = (putRel a ps (fun t => a2.eval (.tmp t))).tmps := by
      refine Array.ext_getElem? fun t => ?_
      by_cases hlt : t < a.tmps.size
      · rw [putRel_get a ps _ t hlt]
        have h1 := hS t
        unfold SRel at h1
        have hlt2 : t < a2.tmps.size := by omega
        have he : a2.eval (.tmp t) = a2.tmps[t] := by simp [Act.eval, Array.getD, hlt2]
        cases hl : lastOf t ps with
        | none =>
          rw [hl] at h1
          simp only
          have : a.eval (.tmp t) = a.tmps[t] := by simp [Act.eval, Array.getD, hlt]
          rw [Array.getElem?_eq_getElem hlt2, Array.getElem?_eq_getElem hlt, ← he, h1, this]
        | some o =>
          rw [hl] at h1
          rw [Array.getElem?_eq_getElem hlt2, ← he]
          cases o with
          | none => rfl
          | some u => simp only at h1; rw [h1]; rfl
      · rw [Array.getElem?_eq_none (by omega), Array.getElem?_eq_none (by rw [putRel_size]; omega)]
    have hd2 : a2.defers = (putRel a ps (fun t => a2.eval (.tmp t))).defers := hdd
    generalize putRel a ps (fun t => a2.eval (.tmp t)) = b at *
    cases a2; cases b
    simp only at ht hd2
    rw [ht, hd2]
  · intro t ht
    have h1 := hS t
    unfold SRel at h1
    rw [(hD t).1 ht] at h1
    exact h1
/-- what the kernel checks of the slots -/
def relB (D : List Nat) (slots : List Nat) (rel : List Nat) (N : Nat) (ds : List Nat) (ops : List Oper) : Bool :=
  decide (slots.Nodup) && D.all (fun t => rel.contains t) && rel.all (fun t => D.contains t) && slots.all (fun t => ds.contains t && decide (t < N)) && ops.all fun o => o.op.operands.toList.all fun | .tmp t => decide (t < N) | _ => true
theorem lastOf_rel {ps : List (Nat × Option Value)} (hn : (ps.map (·.1)).Nodup) (t : Nat) : lastOf t ps = some none ↔ t ∈ relSlots ps := by
  induction ps with
  | nil => simp [lastOf, relSlots]
  | cons p ps ih =>
    simp only [List.map_cons, List.nodup_cons] at hn
    have ih := ih hn.2
    have hstep : lastOf t (p :: ps) = if p.1 = t then some p.2 else lastOf t ps := by
      unfold lastOf
      rw [List.foldl_cons]
      by_cases hp : p.1 = t
      · rw [if_pos hp, if_pos hp]
        have : ∀ (l : List (Nat × Option Value)) (r : Option (Option Value)), t ∉ l.map (·.1) → l.foldl (fun r p => if p.1 = t then some p.2 else r) r = r := by
          intro l
          induction l with
          | nil => intro r _; rfl
          | cons y l ih =>
            intro r h
            simp only [List.map_cons, List.mem_cons, not_or] at h
            rw [List.foldl_cons, if_neg (fun e => h.1 e.symm)]
            exact ih r h.2
        exact this ps _ (hp ▸ hn.1)
      · rw [if_neg hp, if_neg hp]
    have hrs : t ∈ relSlots (p :: ps) ↔ (p.2.isNone = true ∧ p.1 = t) ∨ t ∈ relSlots ps := by
      unfold relSlots
      rw [List.filterMap_cons]
      by_cases hq : p.2.isNone
      · rw [if_pos hq, List.mem_cons]
        exact ⟨fun h => h.elim (fun e => .inl ⟨hq, e.symm⟩) .inr, fun h => h.elim (fun e => .inl e.2.symm) .inr⟩
      · rw [if_neg hq]
        exact ⟨.inr, fun h => h.elim (fun e => absurd e.1 hq) id⟩
    rw [hstep, hrs]
    by_cases hp : p.1 = t
    · rw [if_pos hp]
      have hnt : t ∉ relSlots ps := by
        intro h
        unfold relSlots at h
        obtain ⟨q, hq, hqt⟩ := List.mem_filterMap.1 h
        split at hqt
        · simp only [Option.some.injEq] at hqt
          exact hn.1 (by rw [hp, ← hqt]; exact List.mem_map.2 ⟨q, hq, rfl⟩)
        · cases hqt
      cases hq : p.2 <;> simp [hp, hnt]
    · rw [if_neg hp, ih]
      simp [hp]
theorem rel_facts {D : List Nat} {ps : List (Nat × Option Value)} {N : Nat} {ds : List Nat} {ops : List Oper} (h : relB D (ps.map (·.1)) (relSlots ps) N ds ops = true) :
    (∀ t, t ∈ D ↔ lastOf t ps = some none) ∧ (∀ t ∈ D, t < N) ∧ (∀ t, t ∈ ps.map (·.1) → t ∈ ds) ∧ ∀ o ∈ ops, ∀ t, Operand.tmp t ∈ o.op.operands → t < N := by
  simp only [relB, Bool.and_eq_true, decide_eq_true_eq, List.all_eq_true, List.contains_iff_mem] at h
  obtain ⟨⟨⟨⟨h1, h2⟩, h3⟩, h4⟩, h5⟩ := h
  have hD : ∀ t, t ∈ D ↔ lastOf t ps = some none := fun t => by
    rw [lastOf_rel h1]
    exact ⟨h2 t, h3 t⟩
  refine ⟨hD, fun t ht => ?_, fun t ht => (h4 t ht).1, fun o ho t ht => ?_⟩
  · have := h2 t ht
    unfold relSlots at this
    obtain ⟨q, hq, hqt⟩ := List.mem_filterMap.1 this
    split at hqt
    · simp only [Option.some.injEq] at hqt
      exact (h4 t (List.mem_map.2 ⟨q, hq, hqt⟩)).2
    · cases hqt
  · have := h5 o ho (.tmp t) (by simpa using ht)
    simpa using this
/-- no last operation is set apart -/
theorem region_rel (haF : ∀ g, putRel a ps g = aF g) (hm : P.follows .mixedOrders = true) (hp : planB l.toArray l.toArray.size = true)
    (hk : relB D (ps.map (·.1)) (relSlots ps) a.tmps.size (writes l.toArray) l = true) (hR : ∀ t v w w', R t v w → Below w.heap.size w w' → R t v w') (hC : ∀ w w', Ctx w → Below w.heap.size w w' → Ctx w') (h0 : Ctx w.drew)
    (hrun : ∀ g, EachOp (fun _ o d => d < a.tmps.size ∧ ∀ w, Ctx w → (∀ t, t ∈ D → Operand.tmp t ∈ o.op.operands → R t (g t) w) → (∀ f, o.about P w (aF g).eval = some f → F.fn f) ∧ OpRel D R F n P (aF g) o d w) 0 l)
    (hQ : ∀ g w', Ctx w' → (∀ t ∈ D, R t (g t) w') → Q .normal (aF g) w') :
    (Code.region id l.toArray true).wpIn F n P Q a w := by
  obtain ⟨hD, hDs, hds, hops⟩ := rel_facts hk
  refine wpIn_region_any hm (mono_walk (a0 := a) (S := SRel a ps R) (Ctx := Ctx) hp ?_ hC (fun i o d hi hod => ?_) (fun a' w' hc hS hs hdd => ?_) _ _ _ _ ⟨by simp, rfl, rfl, fun t ht => ?_, h0⟩ ?_)
  · intro t v w w' h hb
    unfold SRel at h ⊢
    split at h
    · exact hR t v w w' h hb
    · exact h
    · exact h
  · have hP := plan_spec hp hi
    have hr := fun g => eachOp_get (hrun g) i o d hi hod
    have hol : o ∈ l := by
      have := Array.mem_of_getElem? hi
      simpa using this
    have hr1 : d < a.tmps.size := (hr fun _ => undef).1
    exact ⟨hr1, rel_op D R ps Ctx hD hP.nodefer hP.nosel hod (hops o hol) ⟨hr1, fun g w hc hg => by rw [haF g]; exact (hr g).2 w hc hg⟩⟩
  · obtain ⟨he, hg⟩ := rel_end D R ps hD hDs hS hs hdd
    rw [he, haF]
    exact hQ _ w' hc hg
  · have hw : t ∉ writes l.toArray := by
      intro hw
      obtain ⟨oj, hoj, hd⟩ := List.mem_filterMap.1 hw
      obtain ⟨j, hj, rfl⟩ := List.mem_iff_getElem.1 hoj
      have := ht j _ (by simp at hj ⊢) hd
      rw [Array.getD_eq_getD_getElem?, Array.getElem?_replicate] at this
      split at this <;> simp at this
    unfold SRel
    rw [lastOf_none (fun h => hw (hds t h))]
  · exact Nat.le_trans (List.length_filter_le _ _) (by simp)
/-- the last operation, behind all others, is walked -/
theorem region_rel_last (s : Nat) (haF : ∀ g, putRel a ps g = aF g) (hm : P.follows .mixedOrders = true) (hs : s + 1 = l.length) (hp : planS l.toArray s = true)
    (hk : relB D (ps.map (·.1)) (relSlots ps) a.tmps.size (writesBut l.toArray s) l = true) (hR : ∀ t v w w', R t v w → Below w.heap.size w w' → R t v w') (hC : ∀ w w', Ctx w → Below w.heap.size w w' → Ctx w') (h0 : Ctx w.drew)
    (hrun : ∀ g, EachOp (fun _ o d => d < a.tmps.size ∧ ∀ w, Ctx w → (∀ t, t ∈ D → Operand.tmp t ∈ o.op.operands → R t (g t) w) → (∀ f, o.about P w (aF g).eval = some f → F.fn f) ∧ OpRel D R F n P (aF g) o d w) 0 (l.take s))
    {o : Oper} (ho : l[s]? = some o) (hlast : ∀ g w', Ctx w' → (∀ t ∈ D, R t (g t) w') → wpListIn F n P l.toArray Q [o] (aF g) w') :
    (Code.region id l.toArray true).wpIn F n P Q a w := by
  obtain ⟨hD, hDs, hds, hops⟩ := rel_facts hk
  refine wpIn_region_any hm (last_walk (a0 := a) (s := s) (S := SRel a ps R) (Ctx := Ctx) hp (by simp; omega) ?_ hC (fun i o d his hi hod => ?_) (fun o' a' w' hi hc hS hss hdd => ?_) _ _ _ _ ⟨by simp, rfl, rfl, fun t ht => ?_, h0⟩ ?_ ?_)
  · intro t v w w' h hb
    unfold SRel at h ⊢
    split at h
    · exact hR t v w w' h hb
    · exact h
    · exact h
  · have hP := planS_spec hp hi
    have hil : i < l.length := by simpa using (Array.getElem?_eq_some_iff.1 hi).1
    have hi2 : (l.take s).toArray[i]? = some o := by
      rw [List.getElem?_toArray, List.getElem?_take, if_pos (by omega)]
      simpa using hi
    have hr := fun g => eachOp_get (hrun g) i o d hi2 hod
    have hol : o ∈ l := by
      have := Array.mem_of_getElem? hi
      simpa using this
    have hr1 : d < a.tmps.size := (hr fun _ => undef).1
    exact ⟨hr1, rel_op D R ps Ctx hD hP.nodefer hP.nosel hod (hops o hol) ⟨hr1, fun g w hc hg => by rw [haF g]; exact (hr g).2 w hc hg⟩⟩
  · obtain ⟨he, hg⟩ := rel_end D R ps hD hDs hS hss hdd
    rw [he, haF]
    obtain rfl : o' = o := by
      have : l[s]? = some o' := by simpa using hi
      rw [ho] at this; exact (Option.some.inj this).symm
    have hl := hlast _ w' hc hg
    unfold wpListIn at hl
    rw [if_pos (by simp [Region.wanted, (planS_spec hp hi).guard])] at hl
    exact hl
  · have hw : t ∉ writesBut l.toArray s := by
      intro hw
      obtain ⟨oj, hoj, hd⟩ := List.mem_filterMap.1 hw
      obtain ⟨j, hj, rfl⟩ := List.mem_iff_getElem.1 hoj
      have hjs : j < s := by simp at hj; omega
      have hjl : j < l.length := by omega
      have := ht j _ (by omega) (show l.toArray[j]? = some l[j] by simp [hjl]) (by simpa using hd)
      rw [Array.getD_eq_getD_getElem?, Array.getElem?_replicate] at this
      split at this <;> simp at this
    unfold SRel
    rw [lastOf_none (fun h => hw (hds t h))]
  · have hsl : s < l.toArray.size := by simp; omega
    rw [Array.getD_eq_getD_getElem?, Array.getElem?_replicate, if_pos hsl]; rfl
  · exact Nat.le_trans (List.length_filter_le _ _) (by simp)
end
end Go.Proofs.YtbimlijhgeajjaaGreatDoor

namespace Go.Proofs.YtbimlijhgeajjaaGreatDoor
open Go Go.RowKit
set_option linter.unusedVariables false
set_option linter.unusedSectionVars false
set_option linter.unusedSimpArgs false
set_option maxRecDepth 100000
theorem infoU64 : (Tryz.prog.info? 114).map (fun i => (i.zero, i.size, i.bytes)) = some (some (.int .u64 0), 1, 8) := by kernel_rfl
theorem str_at (l : List UInt8) (k : Nat) (hk : k < l.length) (w : World) : (Instr.index 9 (.string (bs l)) (.int .i64 (k : Int))).run Tryz.prog w = .ok (.int .u8 ((l.getD k 0).toNat : Int)) w := by
  have h2 : l.getD k 0 = l[k] := by simp [List.getD, hk]
  rw [h2]
  simp [go_sem, hk]
theorem str_mid (l : List UInt8) (a n : Nat) (hk : a + n ≤ l.length) (hL : l.length ≤ 1000000) (w : World) :
    (Instr.slice 9 (.string (bs l)) (some (.int .i64 (a : Int))) (some (.int .i64 ((a : Int) + (n : Int)))) none).run Tryz.prog w = .ok (.string (bs ((l.drop a).take n))) w := by
  simp [go_sem]
  rw [if_pos (by omega), if_pos (by omega), show ((a : Int) + (n : Int)).toNat = a + n by omega, List.drop_take, Nat.add_sub_cancel_left]
theorem and63 (x : UInt8) : bits .and .u8 (x.toNat : Int) 63 = ((x.toNat % 64 : Nat) : Int) := by
  have : ∀ k : Fin 256, bits .and .u8 ((k.val : Nat) : Int) 63 = ((k.val % 64 : Nat) : Int) := by decide
  exact this ⟨x.toNat, x.toNat_lt⟩
theorem and64 (x : UInt8) (h : x.toNat < 128) : bits .and .u8 (x.toNat : Int) 64 = if 64 ≤ x.toNat then 64 else 0 := by
  have : ∀ k : Fin 128, bits .and .u8 ((k.val : Nat) : Int) 64 = if 64 ≤ k.val then 64 else 0 := by decide
  exact this ⟨x.toNat, h⟩
theorem i64_or_nat (x y : Nat) (hx : x < 4611686018427387904) (hy : y < 4611686018427387904) : bits .or .i64 (x : Int) (y : Int) = ((x ||| y : Nat) : Int) := by
  unfold bits
  show IntKind.i64.wrap (((BitVec.ofInt 64 (x : Int) ||| BitVec.ofInt 64 (y : Int)).toNat : Nat) : Int) = _
  rw [BitVec.ofInt_natCast, BitVec.ofInt_natCast, BitVec.toNat_or, BitVec.toNat_ofNat, BitVec.toNat_ofNat, Nat.mod_eq_of_lt (show x < 2 ^ 64 by omega), Nat.mod_eq_of_lt (show y < 2 ^ 64 by omega), IntKind.wrap_i64]
  have : x ||| y < 2 ^ 62 := Nat.or_lt_two_pow (by omega) (by omega)
  omega
theorem num3 (a b c : UInt8) : num [a, b, c] = a.toNat * 65536 + b.toNat * 256 + c.toNat := by
  simp [num]; omega
theorem or3 (a b c : UInt8) : bits .or .i64 (bits .or .i64 ((a.toNat : Int) * 65536) ((b.toNat : Int) * 256)) (c.toNat : Int) = ((num [a, b, c] : Nat) : Int) := by
  have h1 := a.toNat_lt; have h2 := b.toNat_lt; have h3 := c.toNat_lt
  have e1 := i64_or_nat (a.toNat * 65536) (b.toNat * 256) (by omega) (by omega)
  have e2 := nat_join 16 (a.toNat * 65536) (b.toNat * 256) (by omega) (by omega)
  rw [e2] at e1
  have e3 := i64_or_nat (a.toNat * 65536 + b.toNat * 256) c.toNat (by omega) (by omega)
  have e4 := nat_join 8 (a.toNat * 65536 + b.toNat * 256) c.toNat (by omega) (by omega)
  rw [e4] at e3
  rw [num3, ← e3, ← e1]
  simp
def ReadPost (R : RdH) (w : World) (e : Ending) (w' : World) : Prop :=
  ∃ v ev, e = .returned (.tuple #[headV R.op R.now R.flags v, .int .i64 R.words, .int .i64 R.data, ev]) ∧ ErrIs w' ev R.e (-1) ∧ Sl w' v 1 R.vals.length (u64Cells R.vals) ∧ Below w.heap.size w w'
def HC (op : Int) (now : Bool) (flags : Int) (v : Value) : Array Value := #[.int .i64 op, .bool now, .int .i64 flags, v]
theorem own_sl {w : World} {base : Nat} {e : TypeId} {size n : Nat} {v : Value} {xs : List Value} (h : w.ownsRow base e size v n xs) : ∃ A cap, v = .slice A n cap := by
  rcases h.2 with ⟨rfl, rfl⟩ | ⟨g, cap, cur, rfl, _⟩
  · exact ⟨_, _, rfl⟩
  · exact ⟨_, _, rfl⟩
structure KeepBut (h : Nat) (W w : World) : Prop where
  size : W.heap.size ≤ w.heap.size
  keep : ∀ b, b < W.heap.size → b ≠ h → w.heap[b]? = W.heap[b]?
theorem KeepBut.cell {h : Nat} {W w : World} (k : KeepBut h W w) {p : Addr} (hp : p.block < W.heap.size) (hn : p.block ≠ h) : w.cell? p = W.cell? p := by
  unfold World.cell?; rw [k.keep _ hp hn]
theorem KeepBut.refl (h : Nat) (W : World) : KeepBut h W W := ⟨Nat.le_refl _, fun _ _ _ => rfl⟩
theorem KeepBut.below {h : Nat} {W w w' : World} (k : KeepBut h W w) (hb : Below w.heap.size w w') : KeepBut h W w' :=
  ⟨Nat.le_trans k.size hb.size, fun b h1 h2 => (hb.block b (Nat.lt_of_lt_of_le h1 k.size)).trans (k.keep b h1 h2)⟩
theorem KeepBut.set {h : Nat} {W w : World} (k : KeepBut h W w) (i : Nat) (u : Value) : KeepBut h W (w.setCell ⟨h, i, none⟩ u) :=
  ⟨by simpa [World.setCell] using k.size, fun b h1 h2 => (Below.heap_setCell w ⟨h, i, none⟩ u b h2).trans (k.keep b h1 h2)⟩
theorem KeepBut.grown {h : Nat} {W w w' : World} (k : KeepBut h W w) {e : TypeId} {size n : Nat} {v : Value} {xs : List Value} (hown : w.ownsRow W.heap.size e size v n xs) (hg : w.grownBy w' v.ownBlock) : KeepBut h W w' :=
  ⟨Nat.le_trans k.size hg.size, fun b h1 h2 => (hg.block b (Nat.lt_of_lt_of_le h1 k.size) (fun e => by have := (hown.lt b e.symm).1; omega)).trans (k.keep b h1 h2)⟩
theorem valsOf_snoc (r : HR) (s : List UInt8) (k : Nat) (f : FR) (h : r.fields[k]? = some f) : u64Cells ((valsOf r s).take (k + 1)) = u64Cells ((valsOf r s).take k) ++ [.int .u64 (valOf s f : Nat)] := by
  have h2 : (valsOf r s)[k]? = some (valOf s f) := by rw [valsOf, List.getElem?_map, h]; rfl
  obtain ⟨h3, h4⟩ := List.getElem?_eq_some_iff.1 h2
  rw [List.take_succ_eq_append_getElem h3, h4, u64Cells, u64Cells, List.map_append]; rfl
end Go.Proofs.YtbimlijhgeajjaaGreatDoor
