/- A region that draws its order, with stores: its slots come to given values; the word on the world hangs on which operations have been done. No program in sight. -/
import Derived.Test.YtbimlijhgeajjaaGreatDoorGuard
set_option linter.unusedSectionVars false
set_option linter.unusedSimpArgs false
set_option linter.unusedVariables false
namespace Go.Proofs.YtbimlijhgeajjaaGreatDoor
open Go Go.RowKit
set_option linter.unusedVariables false
set_option linter.unusedSimpArgs false
/-- these are done, and this one -/
def also (d : Nat → Bool) (i : Nat) (j : Nat) : Bool := if i = j then true else d j
structure DoneInv (ops : Array Oper) (Ctx : (Nat → Bool) → World → Prop) (aF : Act) (listed : Array Bool) (a : Act) (w : World) : Prop where
  size : listed.size = ops.size
  defers : a.defers = aF.defers
  tsize : a.tmps.size = aF.tmps.size
  vals : ∀ t : Nat, (∀ (j : Nat) oj, ops[j]? = some oj → oj.dst = some t → listed.getD j false = true) → a.eval (.tmp t) = aF.eval (.tmp t)
  ctx : Ctx (fun j => listed.getD j false) w
/-- one operation's word, of each of a list -/
def EveryAt (G : Nat → Oper → Prop) : Nat → List Oper → Prop
  | _, [] => True
  | i, o :: l => G i o ∧ EveryAt G (i + 1) l
theorem everyAt_get {G : Nat → Oper → Prop} : ∀ {l : List Oper} {k : Nat}, EveryAt G k l → ∀ (i : Nat) (o : Oper), l.toArray[i]? = some o → G (k + i) o
  | [], _, _, i, o, hi => by simp at hi
  | x :: l, k, h, i, o, hi => by
    cases i with
    | zero =>
      simp only [List.getElem?_toArray, List.getElem?_cons_zero, Option.some.injEq] at hi
      subst hi
      exact h.1
    | succ i =>
      have := everyAt_get h.2 i o (by simpa using hi)
      rwa [Nat.add_assoc, Nat.add_comm 1 i] at this
theorem done_walk {F : Fence} {n : Nat} {P : Program} {ops : Array Oper} {Q : Exit → Act → World → Prop} {Ctx : (Nat → Bool) → World → Prop} {aF : Act} (hp : planN ops = true)
    (hrun : ∀ (i : Nat) (o : Oper), ops[i]? = some o → (∀ d, o.dst = some d → d < aF.tmps.size) ∧ ∀ d w, Ctx d w → d i = false → (∀ f, o.about P w aF.eval = some f → F.fn f) ∧ OpInv F n P (Ctx (also d i)) aF o w)
    (hQ : ∀ d w, (∀ j, j < ops.size → d j = true) → Ctx d w → Q .normal aF w) :
    ∀ (fuel : Nat) (listed : Array Bool) (a : Act) (w : World), DoneInv ops Ctx aF listed a w → ((List.range ops.size).filter fun i => !listed.getD i true).length ≤ fuel → wpAnyIn F n P .any ops Q fuel listed a w := by
  have fin : ∀ (listed : Array Bool) (a : Act) (w : World), DoneInv ops Ctx aF listed a w → Region.ready .any ops listed = [] → Q .normal a w := by
    intro listed a w hI h0
    have hall : ∀ j, listed.getD j true = true := fun j => by
      cases hj : listed.getD j true with
      | true => rfl
      | false => exact absurd h0 (unlistedN hp hI.size j hj)
    have hS : ∀ t, a.eval (.tmp t) = aF.eval (.tmp t) := fun t => hI.vals t fun j oj hj hd => by
      have hlt := (Array.getElem?_eq_some_iff.1 hj).1
      have := hall j
      rw [Array.getD_eq_getD_getElem?, Array.getElem?_eq_getElem (by rw [hI.size]; exact hlt)] at this ⊢
      simpa using this
    have haF : a = aF := by
      have hsz := hI.tsize
      have ht : a.tmps = aF.tmps := by
        refine Array.ext_getElem? fun t => ?_
        have h1 := hS t
        by_cases hlt : t < aF.tmps.size
        · have hlt2 : t < a.tmps.size := by omega
          simp only [Act.eval, Array.getD_eq_getD_getElem?, Array.getElem?_eq_getElem hlt, Array.getElem?_eq_getElem hlt2, Option.getD_some] at h1
          rw [Array.getElem?_eq_getElem hlt, Array.getElem?_eq_getElem hlt2, h1]
        · rw [Array.getElem?_eq_none (by omega), Array.getElem?_eq_none (by omega)]
      have hd2 : a.defers = aF.defers := hI.defers
      cases a; cases aF
      simp only at ht hd2
      rw [ht, hd2]
    rw [haF]
    refine hQ _ w (fun j hj => ?_) hI.ctx
    have := hall j
    show listed.getD j false = true
    rw [Array.getD_eq_getD_getElem?, Array.getElem?_eq_getElem (by rw [hI.size]; exact hj)] at this ⊢
    simpa using this
  intro fuel
  induction fuel with
  | zero =>
    intro listed a w hI hc
    have h0 : (List.range ops.size).filter (fun i => !listed.getD i true) = [] := List.length_eq_zero_iff.1 (by omega)
    have hr : Region.ready .any ops listed = [] := by
      refine List.filter_eq_nil_iff.2 fun j hj => ?_
      have := List.filter_eq_nil_iff.1 h0 j hj
      simp only [Bool.not_eq_true', Bool.not_eq_false] at this
      simp [this]
    exact ⟨hr, fin listed a w hI hr⟩
  | succ fuel ih =>
    intro listed a w hI hc
    refine ⟨fun h0 => fin listed a w hI h0, fun i hi => ?_⟩
    obtain ⟨hil, o, ho, hafter⟩ := mem_ready.1 hi
    have hP := planN_spec hp ho
    have hlt : i < ops.size := (Array.getElem?_eq_some_iff.1 ho).1
    have hwant : Region.wanted o (yielded ops a.tmps) = true := by simp [Region.wanted, hP.guard]
    unfold wpOpIn
    simp only [ho, hwant, if_true]
    obtain ⟨hdlt, hr⟩ := hrun i o ho
    have hdi : listed.getD i false = false := by
      rw [Array.getD_eq_getD_getElem?, Array.getElem?_eq_getElem (by rw [hI.size]; exact hlt)] at hil ⊢
      simpa using hil
    obtain ⟨hr1, hr2⟩ := hr (fun j => listed.getD j false) w hI.ctx hdi
    have hmark : (fun j => (listed.setIfInBounds i true).getD j false) = also (fun j => listed.getD j false) i := by
      funext j
      rw [getD_mark]
      unfold also
      by_cases h : i = j
      · rw [if_pos ⟨h, by rw [hI.size]; exact hlt⟩, if_pos h]
      · rw [if_neg (fun e => h e.1), if_neg h]
    have hc' : ((List.range ops.size).filter fun j => !(listed.setIfInBounds i true).getD j true).length ≤ fuel := by
      have := unlisted_less (N := ops.size) hlt hil
      omega
    have hsame : ∀ x ∈ o.op.operands, a.eval x = aF.eval x := by
      intro x hx
      cases x with
      | tmp t =>
        exact hI.vals t fun j oj hj hd => by
          obtain ⟨e, he, hb, rfl⟩ := hP.reads t hx j oj hj hd
          exact hafter e he hb
      | _ => rfl
    have hex := execOp_congr o hP.nosel hsame
    have hab := about_congr (P := P) o w hsame
    have next : ∀ (v : Value) (w' : World), (match o.dst with | some d => v = aF.eval (.tmp d) | none => True) → Ctx (also (fun j => listed.getD j false) i) w' → wpAnyIn F n P .any ops Q fuel (listed.setIfInBounds i true) (a.put o.dst v) w' := by
      intro v w' hv hw'
      rw [← hmark] at hw'
      cases hd : o.dst with
      | none =>
        refine ih _ _ _ ⟨by rw [Array.size_setIfInBounds]; exact hI.size, hI.defers, hI.tsize, fun t ht => ?_, hw'⟩ hc'
        refine hI.vals t fun j oj hj hjd => ?_
        have h1 := ht j oj hj hjd
        rw [getD_mark, if_neg] at h1
        · exact h1
        · rintro ⟨rfl, _⟩
          rw [ho] at hj; cases hj
          rw [hd] at hjd; cases hjd
      | some d =>
        rw [hd] at hv
        simp only at hv
        have hdl : d < a.tmps.size := by rw [hI.tsize]; exact hdlt d hd
        refine ih _ _ _ ⟨by rw [Array.size_setIfInBounds]; exact hI.size, hI.defers, ?_, fun t ht => ?_, hw'⟩ hc'
        · show (a.tmps.setIfInBounds d _).size = _
          rw [Array.size_setIfInBounds, hI.tsize]
        · by_cases hdt : d = t
          · subst hdt
            show (a.tmps.setIfInBounds d v).getD d undef = _
            simp [Array.getD, hdl, hv]
          · show (a.tmps.setIfInBounds d v).getD t undef = _
            rw [Array.getD_eq_getD_getElem?, Array.getElem?_setIfInBounds, if_neg hdt, ← Array.getD_eq_getD_getElem?]
            refine hI.vals t fun j oj hj hjd => ?_
            have h1 := ht j oj hj hjd
            rw [getD_mark, if_neg] at h1
            · exact h1
            · rintro ⟨rfl, _⟩
              rw [ho] at hj; cases hj
              rw [hd] at hjd; cases hjd; exact hdt rfl
    unfold Oper.wpIn
    rw [hab, Oper.semAt_eq _ _ _ hP.nodefer, hex]
    refine ⟨hr1, ?_⟩
    unfold OpInv at hr2
    split at hr2
    · rename_i v w' heq
      rw [heq]
      exact next v w' hr2.1 hr2.2
    · rename_i w' heq
      rw [heq]
      exact next undef w' hr2.1 hr2.2
    · rename_i f args w' heq
      rw [heq]
      refine ⟨hr2.1, hr2.2.mono ?_⟩
      rintro e w'' ⟨v, rfl, hv, hw''⟩
      exact next v w'' hv hw''
    · exact hr2.elim
theorem region_done {F : Fence} {n : Nat} {P : Program} {id : Nat} {l : List Oper} {Q : Exit → Act → World → Prop} (ps : List (Nat × Value)) {aF : Act} (Ctx : (Nat → Bool) → World → Prop) {a : Act} {w : World} (haF : putAll a ps = aF) (hm : P.follows .mixedOrders = true)
    (hk : (ps.map (·.1)).all (fun t => (writes l.toArray).contains t) = true) (hp : planN l.toArray = true) (h0 : Ctx (fun _ => false) w.drew)
    (hrun : EveryAt (fun i o => (∀ d, o.dst = some d → d < aF.tmps.size) ∧ ∀ d w, Ctx d w → d i = false → (∀ f, o.about P w aF.eval = some f → F.fn f) ∧ OpInv F n P (Ctx (also d i)) aF o w) 0 l)
    (hQ : ∀ d w', (∀ j, j < l.length → d j = true) → Ctx d w' → Q .normal aF w') :
    (Code.region id l.toArray true).wpIn F n P Q a w := by
  subst haF
  refine wpIn_region_any hm (done_walk hp (fun i o hi => by simpa using everyAt_get hrun i o hi) (fun d w h => hQ d w (by simpa using h)) _ _ _ _ ⟨by simp, rfl, (putAll_size a ps).symm, fun t ht => ?_, ?_⟩ ?_)
  · have hw : t ∉ ps.map (·.1) := by
      intro h
      have := List.all_eq_true.1 hk t h
      have hw : t ∈ writes l.toArray := by simpa using this
      obtain ⟨oj, hoj, hd⟩ := List.mem_filterMap.1 hw
      obtain ⟨j, hj, rfl⟩ := List.mem_iff_getElem.1 hoj
      have := ht j _ (by simp at hj ⊢) hd
      rw [Array.getD_eq_getD_getElem?, Array.getElem?_replicate] at this
      split at this <;> simp at this
    have := putAll_get a ps t hw
    simp only [Act.eval, Array.getD_eq_getD_getElem?, this]
  · have e : (fun j => (Array.replicate l.toArray.size false).getD j false) = fun _ => false := by
      funext j
      rw [Array.getD_eq_getD_getElem?, Array.getElem?_replicate]
      split <;> rfl
    rw [e]; exact h0
  · exact Nat.le_trans (List.length_filter_le _ _) (by simp)
end Go.Proofs.YtbimlijhgeajjaaGreatDoor

namespace Go.Proofs.YtbimlijhgeajjaaGreatDoor
open Go Go.RowKit
set_option linter.unusedVariables false
set_option linter.unusedSimpArgs false
/-- an operation stands behind another one -/
def dependsOn (ops : Array Oper) (i : Nat) : Nat → Nat → Bool
  | 0, _ => false
  | k + 1, j => match ops[j]? with
    | none => false
    | some o => o.after.any fun e => Region.binds .any e && (e.on == i || dependsOn ops i k e.on)
/-- these slots are written by an operation, or behind it -/
def chB (ops : Array Oper) (i : Nat) (ch : List Nat) : Bool :=
  ch.all fun t => (writes ops).contains t && (List.range ops.size).all fun j => match ops[j]? with
    | none => true
    | some o => o.dst != some t || j == i || dependsOn ops i ops.size j
theorem depends_done {ops : Array Oper} {d : Nat → Bool} (hc : ∀ j oj, ops[j]? = some oj → d j = true → ∀ e ∈ oj.after, Region.binds .any e = true → d e.on = true) {i : Nat} : ∀ (k j : Nat), dependsOn ops i k j = true → d j = true → d i = true := by
  intro k
  induction k with
  | zero => intro j h; cases h
  | succ k ih =>
    intro j h hj
    rw [dependsOn] at h
    cases ho : ops[j]? with
    | none => rw [ho] at h; cases h
    | some o =>
      rw [ho] at h
      simp only at h
      obtain ⟨m, hm, h⟩ := Array.any_eq_true.1 h
      simp only [Bool.and_eq_true, Bool.or_eq_true, beq_iff_eq] at h
      have h2 := hc j o ho hj _ (Array.getElem_mem hm) h.1
      rcases h.2 with h3 | h3
      · rw [h3] at h2; exact h2
      · exact ih _ h3 h2
/-- two lists of slots that agree but for some -/
def AgreeOff (ch : List Nat) : List (Nat × Value) → List (Nat × Value) → Prop
  | [], [] => True
  | p :: l, q :: m => p.1 = q.1 ∧ (p.1 ∈ ch ∨ p.2 = q.2) ∧ AgreeOff ch l m
  | _, _ => False
theorem agreeOff_get {ch : List Nat} : ∀ {l m : List (Nat × Value)} (x y : Array Value), AgreeOff ch l m → x.size = y.size → ∀ t, t ∉ ch → x[t]? = y[t]? → (l.foldl (fun t p => t.setIfInBounds p.1 p.2) x)[t]? = (m.foldl (fun t p => t.setIfInBounds p.1 p.2) y)[t]?
  | [], [], x, y, _, _, t, _, h => h
  | p :: l, q :: m, x, y, ⟨h1, h2, h3⟩, hs, t, ht, h => by
    rw [List.foldl_cons, List.foldl_cons]
    refine agreeOff_get _ _ h3 (by simp [hs]) t ht ?_
    rw [Array.getElem?_setIfInBounds, Array.getElem?_setIfInBounds, ← h1]
    by_cases hp : p.1 = t
    · rw [if_pos hp, if_pos hp, hs]
      rcases h2 with h2 | h2
      · rw [hp] at h2; exact absurd h2 ht
      · rw [h2]
    · rw [if_neg hp, if_neg hp, h]
  | [], _ :: _, _, _, h, _, _, _, _ => h.elim
  | _ :: _, [], _, _, h, _, _, _, _ => h.elim
theorem agreeOff_eval {ch : List Nat} {l m : List (Nat × Value)} (a : Act) (h : AgreeOff ch l m) (t : Nat) (ht : t ∉ ch) : (putAll a l).eval (.tmp t) = (putAll a m).eval (.tmp t) := by
  have := agreeOff_get a.tmps a.tmps h rfl t ht rfl
  simp only [putAll, Act.eval, Array.getD_eq_getD_getElem?]
  rw [this]
section
variable {G : Type}
/-- one operation's word -/
def OpGhost (F : Fence) (n : Nat) (P : Program) (ops : Array Oper) (i : Nat) (Ctx : G → World → Prop) (vals : G → List (Nat × Value)) (aF : G → Act) (x : G) (o : Oper) (w : World) : Prop :=
  match (execOp (aF x).eval o).run P w with
  | .ok (.value v) w' => ∃ y, (match o.dst with | some d => v = (aF y).eval (.tmp d) | none => True) ∧ (y = x ∨ ∃ ch, chB ops i ch = true ∧ AgreeOff ch (vals x) (vals y)) ∧ Ctx y w'
  | .ok .skip w' => ∃ y, (match o.dst with | some d => undef = (aF y).eval (.tmp d) | none => True) ∧ (y = x ∨ ∃ ch, chB ops i ch = true ∧ AgreeOff ch (vals x) (vals y)) ∧ Ctx y w'
  | .ok (.enter f args) w' => (F.depth.isSome = true → 1 ≤ n) ∧ CallsIn F (n - 1) P f args w' (fun e w'' => ∃ v, e = .returned v ∧ ∃ y, (match o.dst with | some d => v = (aF y).eval (.tmp d) | none => True) ∧ (y = x ∨ ∃ ch, chB ops i ch = true ∧ AgreeOff ch (vals x) (vals y)) ∧ Ctx y w'')
  | _ => False
section
variable {F : Fence} {n : Nat} {P : Program} {ops : Array Oper} {i : Nat} {Ctx : G → World → Prop} {vals : G → List (Nat × Value)} {aF : G → Act} {x : G} {o : Oper} {w : World}
theorem opGhost_same {d : Nat} (h : (execOp (aF x).eval o).run P w = .ok (.value ((aF x).eval (.tmp d))) w) (hd : o.dst = some d) (hc : Ctx x w) : OpGhost F n P ops i Ctx vals aF x o w := by
  unfold OpGhost
  rw [h, hd]
  exact ⟨x, rfl, .inl rfl, hc⟩
theorem opGhost_new {d : Nat} {w' : World} (y : G) (ch : List Nat) (h : (execOp (aF x).eval o).run P w = .ok (.value ((aF y).eval (.tmp d))) w') (hd : o.dst = some d) (hch : chB ops i ch = true) (ha : AgreeOff ch (vals x) (vals y)) (hc : Ctx y w') : OpGhost F n P ops i Ctx vals aF x o w := by
  unfold OpGhost
  rw [h, hd]
  exact ⟨y, rfl, .inr ⟨ch, hch, ha⟩, hc⟩
theorem opGhost_store {w' : World} (h : (execOp (aF x).eval o).run P w = .ok .skip w') (hd : o.dst = none) (hc : Ctx x w') : OpGhost F n P ops i Ctx vals aF x o w := by
  unfold OpGhost
  rw [h, hd]
  exact ⟨x, trivial, .inl rfl, hc⟩
theorem opGhost_call {f : FuncId} {args : Array Value} {w' : World} {d : Nat} (h : (execOp (aF x).eval o).run P w = .ok (.enter f args) w') (hd : o.dst = some d) (hn : F.depth.isSome = true → 1 ≤ n)
    (hc : CallsIn F (n - 1) P f args w' (fun e w'' => ∃ y, e = .returned ((aF y).eval (.tmp d)) ∧ (y = x ∨ ∃ ch, chB ops i ch = true ∧ AgreeOff ch (vals x) (vals y)) ∧ Ctx y w'')) : OpGhost F n P ops i Ctx vals aF x o w := by
  unfold OpGhost
  rw [h, hd]
  refine ⟨hn, hc.mono ?_⟩
  rintro e w'' ⟨y, rfl, h2, h3⟩
  exact ⟨_, rfl, y, rfl, h2, h3⟩
end
structure GhostInv (ops : Array Oper) (Ctx : (Nat → Bool) → G → World → Prop) (vals : G → List (Nat × Value)) (a0 : Act) (x : G) (listed : Array Bool) (a : Act) (w : World) : Prop where
  size : listed.size = ops.size
  defers : a.defers = a0.defers
  tsize : a.tmps.size = a0.tmps.size
  vals : ∀ t : Nat, (∀ (j : Nat) oj, ops[j]? = some oj → oj.dst = some t → listed.getD j false = true) → a.eval (.tmp t) = (putAll a0 (vals x)).eval (.tmp t)
  ctx : Ctx (fun j => listed.getD j false) x w
  closed : ∀ (j : Nat) oj, ops[j]? = some oj → listed.getD j false = true → ∀ e ∈ oj.after, Region.binds .any e = true → listed.getD e.on false = true
theorem ghost_walk {F : Fence} {n : Nat} {P : Program} {ops : Array Oper} {Q : Exit → Act → World → Prop} {Ctx : (Nat → Bool) → G → World → Prop} {vals : G → List (Nat × Value)} {a0 : Act} (hp : planN ops = true)
    (hrun : ∀ (i : Nat) (o : Oper), ops[i]? = some o → (∀ d, o.dst = some d → d < a0.tmps.size) ∧ ∀ d x w, Ctx d x w → d i = false → (∀ e ∈ o.after, Region.binds .any e = true → d e.on = true) →
      (∀ f, o.about P w (putAll a0 (vals x)).eval = some f → F.fn f) ∧ OpGhost F n P ops i (Ctx (also d i)) vals (fun y => putAll a0 (vals y)) x o w)
    (hQ : ∀ d x w, (∀ j, j < ops.size → d j = true) → Ctx d x w → Q .normal (putAll a0 (vals x)) w) :
    ∀ (fuel : Nat) (listed : Array Bool) (a : Act) (x : G) (w : World), GhostInv ops Ctx vals a0 x listed a w → ((List.range ops.size).filter fun i => !listed.getD i true).length ≤ fuel → wpAnyIn F n P .any ops Q fuel listed a w := by
  have fin : ∀ (listed : Array Bool) (a : Act) (x : G) (w : World), GhostInv ops Ctx vals a0 x listed a w → Region.ready .any ops listed = [] → Q .normal a w := by
    intro listed a x w hI h0
    have hall : ∀ j, listed.getD j true = true := fun j => by
      cases hj : listed.getD j true with
      | true => rfl
      | false => exact absurd h0 (unlistedN hp hI.size j hj)
    have hS : ∀ t, a.eval (.tmp t) = (putAll a0 (vals x)).eval (.tmp t) := fun t => hI.vals t fun j oj hj hd => by
      have hlt := (Array.getElem?_eq_some_iff.1 hj).1
      have := hall j
      rw [Array.getD_eq_getD_getElem?, Array.getElem?_eq_getElem (by rw [hI.size]; exact hlt)] at this ⊢
      simpa using this
    have haF : a = putAll a0 (vals x) := by
      have hsz : a.tmps.size = (putAll a0 (vals x)).tmps.size := by rw [putAll_size]; exact hI.tsize
      have ht : a.tmps = (putAll a0 (vals x)).tmps := by
        refine Array.ext_getElem? fun t => ?_
        have h1 := hS t
        by_cases hlt : t < (putAll a0 (vals x)).tmps.size
        · have hlt2 : t < a.tmps.size := by omega
          simp only [Act.eval, Array.getD_eq_getD_getElem?, Array.getElem?_eq_getElem hlt, Array.getElem?_eq_getElem hlt2, Option.getD_some] at h1
          rw [Array.getElem?_eq_getElem hlt, Array.getElem?_eq_getElem hlt2, h1]
        · rw [Array.getElem?_eq_none (by omega), Array.getElem?_eq_none (by omega)]
      have hd2 : a.defers = (putAll a0 (vals x)).defers := hI.defers
      generalize putAll a0 (vals x) = b at *
      cases a; cases b
      simp only at ht hd2
      rw [ht, hd2]
    rw [haF]
    refine hQ _ x w (fun j hj => ?_) hI.ctx
    have := hall j
    show listed.getD j false = true
    rw [Array.getD_eq_getD_getElem?, Array.getElem?_eq_getElem (by rw [hI.size]; exact hj)] at this ⊢
    simpa using this
  intro fuel
  induction fuel with
  | zero =>
    intro listed a x w hI hc
    have h0 : (List.range ops.size).filter (fun i => !listed.getD i true) = [] := List.length_eq_zero_iff.1 (by omega)
    have hr : Region.ready .any ops listed = [] := by
      refine List.filter_eq_nil_iff.2 fun j hj => ?_
      have := List.filter_eq_nil_iff.1 h0 j hj
      simp only [Bool.not_eq_true', Bool.not_eq_false] at this
      simp [this]
    exact ⟨hr, fin listed a x w hI hr⟩
  | succ fuel ih =>
    intro listed a x w hI hc
    refine ⟨fun h0 => fin listed a x w hI h0, fun i hi => ?_⟩
    obtain ⟨hil, o, ho, hafter⟩ := mem_ready.1 hi
    have hP := planN_spec hp ho
    have hlt : i < ops.size := (Array.getElem?_eq_some_iff.1 ho).1
    have hwant : Region.wanted o (yielded ops a.tmps) = true := by simp [Region.wanted, hP.guard]
    unfold wpOpIn
    simp only [ho, hwant, if_true]
    obtain ⟨hdlt, hr⟩ := hrun i o ho
    have hdi : listed.getD i false = false := by
      rw [Array.getD_eq_getD_getElem?, Array.getElem?_eq_getElem (by rw [hI.size]; exact hlt)] at hil ⊢
      simpa using hil
    obtain ⟨hr1, hr2⟩ := hr (fun j => listed.getD j false) x w hI.ctx hdi (fun e he hb => hafter e he hb)
    have hmark : (fun j => (listed.setIfInBounds i true).getD j false) = also (fun j => listed.getD j false) i := by
      funext j
      rw [getD_mark]
      unfold also
      by_cases h : i = j
      · rw [if_pos ⟨h, by rw [hI.size]; exact hlt⟩, if_pos h]
      · rw [if_neg (fun e => h e.1), if_neg h]
    have hc' : ((List.range ops.size).filter fun j => !(listed.setIfInBounds i true).getD j true).length ≤ fuel := by
      have := unlisted_less (N := ops.size) hlt hil
      omega
    have hsame : ∀ u ∈ o.op.operands, a.eval u = (putAll a0 (vals x)).eval u := by
      intro u hu
      cases u with
      | tmp t =>
        exact hI.vals t fun j oj hj hd => by
          obtain ⟨e, he, hb, rfl⟩ := hP.reads t hu j oj hj hd
          exact hafter e he hb
      | _ => rfl
    have hex := execOp_congr o hP.nosel hsame
    have hab := about_congr (P := P) o w hsame
    have hclosed : ∀ (j : Nat) oj, ops[j]? = some oj → (listed.setIfInBounds i true).getD j false = true → ∀ e ∈ oj.after, Region.binds .any e = true → (listed.setIfInBounds i true).getD e.on false = true := by
      intro j oj hj hjd e he hb
      have mk : ∀ k, listed.getD k false = true → (listed.setIfInBounds i true).getD k false = true := by
        intro k hk
        rw [getD_mark]
        split
        · rfl
        · exact hk
      by_cases hij : i = j
      · subst hij
        rw [ho] at hj; cases hj
        exact mk _ (hafter e he hb)
      · rw [getD_mark, if_neg (fun e => hij e.1)] at hjd
        exact mk _ (hI.closed j oj hj hjd e he hb)
    have keep : ∀ y : G, (y = x ∨ ∃ ch, chB ops i ch = true ∧ AgreeOff ch (vals x) (vals y)) → ∀ t, (∀ (j : Nat) oj, ops[j]? = some oj → oj.dst = some t → listed.getD j false = true) → (putAll a0 (vals x)).eval (.tmp t) = (putAll a0 (vals y)).eval (.tmp t) := by
      rintro y (rfl | ⟨ch, hch, hag⟩) t ht
      · rfl
      · refine agreeOff_eval a0 hag t fun hmem => ?_
        have h := List.all_eq_true.1 hch t hmem
        simp only [Bool.and_eq_true] at h
        have hw : t ∈ writes ops := by simpa using h.1
        obtain ⟨oj, hoj, hd⟩ := List.mem_filterMap.1 hw
        obtain ⟨j, hj, rfl⟩ := List.mem_iff_getElem.1 hoj
        have hjs : j < ops.size := by simpa using hj
        have hj2 : ops[j]? = some (ops.toList[j]) := by simp [hjs]
        have h2 := List.all_eq_true.1 h.2 j (List.mem_range.2 hjs)
        rw [hj2] at h2
        simp only [hd, bne_self_eq_false, Bool.false_or, Bool.or_eq_true, beq_iff_eq] at h2
        have hl := ht j _ hj2 hd
        rcases h2 with rfl | h2
        · rw [hl] at hdi; cases hdi
        · have := depends_done (d := fun j => listed.getD j false) (fun j oj hj hjd e he hb => hI.closed j oj hj hjd e he hb) _ _ h2 hl
          have this : listed.getD i false = true := this
          rw [this] at hdi; cases hdi
    have next : ∀ (v : Value) (y : G) (w' : World), (match o.dst with | some d => v = (putAll a0 (vals y)).eval (.tmp d) | none => True) → (y = x ∨ ∃ ch, chB ops i ch = true ∧ AgreeOff ch (vals x) (vals y)) → Ctx (also (fun j => listed.getD j false) i) y w' → wpAnyIn F n P .any ops Q fuel (listed.setIfInBounds i true) (a.put o.dst v) w' := by
      intro v y w' hv hk hw'
      have hkeep := keep y hk
      rw [← hmark] at hw'
      cases hd : o.dst with
      | none =>
        refine ih _ _ y _ ⟨by rw [Array.size_setIfInBounds]; exact hI.size, hI.defers, hI.tsize, fun t ht => ?_, hw', hclosed⟩ hc'
        have hold : ∀ (j : Nat) oj, ops[j]? = some oj → oj.dst = some t → listed.getD j false = true := fun j oj hj hjd => by
          have h1 := ht j oj hj hjd
          rw [getD_mark, if_neg] at h1
          · exact h1
          · rintro ⟨rfl, _⟩
            rw [ho] at hj; cases hj
            rw [hd] at hjd; cases hjd
        exact (hI.vals t hold).trans (hkeep t hold)
      | some d =>
        rw [hd] at hv
        simp only at hv
        have hdl : d < a.tmps.size := by rw [hI.tsize]; exact hdlt d hd
        refine ih _ _ y _ ⟨by rw [Array.size_setIfInBounds]; exact hI.size, hI.defers, ?_, fun t ht => ?_, hw', hclosed⟩ hc'
        · show (a.tmps.setIfInBounds d _).size = _
          rw [Array.size_setIfInBounds, hI.tsize]
        · by_cases hdt : d = t
          · subst hdt
            show (a.tmps.setIfInBounds d v).getD d undef = _
            rw [← hv]
            simp [Array.getD, hdl]
          · show (a.tmps.setIfInBounds d v).getD t undef = _
            rw [Array.getD_eq_getD_getElem?, Array.getElem?_setIfInBounds, if_neg hdt, ← Array.getD_eq_getD_getElem?]
            have hold : ∀ (j : Nat) oj, ops[j]? = some oj → oj.dst = some t → listed.getD j false = true := fun j oj hj hjd => by
              have h1 := ht j oj hj hjd
              rw [getD_mark, if_neg] at h1
              · exact h1
              · rintro ⟨rfl, _⟩
                rw [ho] at hj; cases hj
                rw [hd] at hjd; cases hjd; exact hdt rfl
            exact (hI.vals t hold).trans (hkeep t hold)
    unfold Oper.wpIn
    rw [hab, Oper.semAt_eq _ _ _ hP.nodefer, hex]
    refine ⟨hr1, ?_⟩
    unfold OpGhost at hr2
    split at hr2
    · rename_i v w' heq
      rw [heq]
      obtain ⟨y, h1, h2, h3⟩ := hr2
      exact next v y w' h1 h2 h3
    · rename_i w' heq
      rw [heq]
      obtain ⟨y, h1, h2, h3⟩ := hr2
      exact next undef y w' h1 h2 h3
    · rename_i f args w' heq
      rw [heq]
      refine ⟨hr2.1, hr2.2.mono ?_⟩
      rintro e w'' ⟨v, rfl, y, h1, h2, h3⟩
      exact next v y w'' h1 h2 h3
    · exact hr2.elim
theorem region_ghost {F : Fence} {n : Nat} {P : Program} {id : Nat} {l : List Oper} {Q : Exit → Act → World → Prop} (vals : G → List (Nat × Value)) (Ctx : (Nat → Bool) → G → World → Prop) (x0 : G) {a : Act} {w : World} {aF : G → Act} (haF : ∀ y, putAll a (vals y) = aF y) (hm : P.follows .mixedOrders = true)
    (keys : List Nat) (hkeys : ∀ x, (vals x).map (·.1) = keys) (hk : keys.all (fun t => (writes l.toArray).contains t) = true) (hp : planN l.toArray = true) (h0 : Ctx (fun _ => false) x0 w.drew)
    (hrun : EveryAt (fun i o => (∀ d, o.dst = some d → d < a.tmps.size) ∧ ∀ d x w, Ctx d x w → d i = false → (∀ e ∈ o.after, Region.binds .any e = true → d e.on = true) →
      (∀ f, o.about P w (aF x).eval = some f → F.fn f) ∧ OpGhost F n P l.toArray i (Ctx (also d i)) vals aF x o w) 0 l)
    (hQ : ∀ d x w', (∀ j, j < l.length → d j = true) → Ctx d x w' → Q .normal (aF x) w') :
    (Code.region id l.toArray true).wpIn F n P Q a w := by
  obtain rfl : (fun y => putAll a (vals y)) = aF := funext haF
  refine wpIn_region_any hm (ghost_walk (vals := vals) (a0 := a) hp (fun i o hi => by simpa using everyAt_get hrun i o hi) (fun d x w h => hQ d x w (by simpa using h)) _ _ _ x0 _ ⟨by simp, rfl, rfl, fun t ht => ?_, ?_, ?_⟩ ?_)
  · have hw : t ∉ (vals x0).map (·.1) := by
      rw [hkeys]
      intro h
      have := List.all_eq_true.1 hk t h
      have hw : t ∈ writes l.toArray := by simpa using this
      obtain ⟨oj, hoj, hd⟩ := List.mem_filterMap.1 hw
      obtain ⟨j, hj, rfl⟩ := List.mem_iff_getElem.1 hoj
      have := ht j _ (by simp at hj ⊢) hd
      rw [Array.getD_eq_getD_getElem?, Array.getElem?_replicate] at this
      split at this <;> simp at this
    have := putAll_get a (vals x0) t hw
    simp only [Act.eval, Array.getD_eq_getD_getElem?]
    rw [this]
  · have e : (fun j => (Array.replicate l.toArray.size false).getD j false) = fun _ => false := by
      funext j
      rw [Array.getD_eq_getD_getElem?, Array.getElem?_replicate]
      split <;> rfl
    rw [e]; exact h0
  · intro j oj hj hjd
    rw [Array.getD_eq_getD_getElem?, Array.getElem?_replicate] at hjd
    split at hjd <;> simp at hjd
  · exact Nat.le_trans (List.length_filter_le _ _) (by simp)
end
end Go.Proofs.YtbimlijhgeajjaaGreatDoor
