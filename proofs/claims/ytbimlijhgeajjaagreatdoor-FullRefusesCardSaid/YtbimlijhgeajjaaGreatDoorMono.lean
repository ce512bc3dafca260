/- strconv.ErrSyntax and strconv.ErrRange hold some error. -/
import Derived.Test.YtbimlijhgeajjaaGreatDoorChecked
import Derived.Test.YtbimlijhgeajjaaGreatDoorBase
import Derived.LaidLaws
import Derived.LaidSub
import Derived.LaidMore
import Derived.Lib.LaidTab
import GoSem.ClaimJoined
import Derived.Test.YtbimlijhgeajjaaGreatDoorPUint
import Derived.Test.YtbimlijhgeajjaaGreatDoorShelfL
import Derived.Test.YtbimlijhgeajjaaGreatDoorPlan
set_option linter.unusedSectionVars false
set_option linter.unusedSimpArgs false
set_option linter.unusedVariables false
namespace Go.Proofs.YtbimlijhgeajjaaGreatDoor
open Go Go.RowKit
set_option linter.unusedVariables false
set_option linter.unusedSectionVars false
set_option linter.unusedSimpArgs false
def IfaceAt (w : World) (g : Nat) : Prop := ∃ te pe, w.cell? ⟨g, 0, none⟩ = some (.iface te pe)
/-- both variables hold some error -/
def EV (w : World) : Prop := IfaceAt w 5 ∧ IfaceAt w 6
theorem IfaceAt.below {w w' : World} {g : Nat} {B : Nat} (h : IfaceAt w g) (hb : Below B w w') (hB : B ≤ w.heap.size) (hg : g < B) : IfaceAt w' g := by
  obtain ⟨te, pe, h⟩ := h
  exact ⟨te, pe, (hb.cell (p := ⟨g, 0, none⟩) hg).trans h⟩
theorem EV.below {w w' : World} (h : EV w) (hb : Below w.heap.size w w') : EV w' := by
  obtain ⟨⟨t1, p1, h1⟩, ⟨t2, p2, h2⟩⟩ := h
  exact ⟨⟨t1, p1, (hb.cell (p := ⟨5, 0, none⟩) (World.block_lt_of_cell? w _ h1)).trans h1⟩, ⟨t2, p2, (hb.cell (p := ⟨6, 0, none⟩) (World.block_lt_of_cell? w _ h2)).trans h2⟩⟩
theorem ifaceAt_of_laid {L : List (String × DataW Unit)} {name nm : String} {d : DataW Unit} {g : Nat} {ti : TypeId} {ms : Array (String × TypeId)} (hfl : (L.filter fun x => x.2.handleName?.isNone).filter (fun x => x.1 == name) = [(name, .iface nm d)])
    (hg : Tryz.prog.globalNamed name = some g) (hty : (Tryz.prog.globals[g]?).map (·.type) = some ti) (hi : Tryz.prog.underlying ti = some (.interface ms)) {W : World} (h : laidMetH Tryz.prog L W) : IfaceAt W g := by
  have h2 := ((laidMetH_iff.1 h).1).filter fun x => x.1 == name
  rw [hfl] at h2
  obtain ⟨ps, ⟨g', t', cs, fuel, p, q, hg', ht', hvar, hd, _, _⟩, _⟩ := h2
  obtain rfl := Option.some.inj (hg.symm.trans hg')
  obtain rfl := Option.some.inj (hty.symm.trans ht')
  obtain ⟨_, u, v, hc, _, _⟩ := iface_of_trod hi hd
  have := World.var?_cell hg hvar 0
  refine ⟨u, v, ?_⟩
  rw [this]
  rw [← Array.getElem?_toList, hc]
  rfl
end Go.Proofs.YtbimlijhgeajjaaGreatDoor

namespace Go.Proofs.YtbimlijhgeajjaaGreatDoor
open Go Go.RowKit
set_option linter.unusedVariables false
set_option linter.unusedSectionVars false
set_option linter.unusedSimpArgs false
set_option maxRecDepth 100000
theorem puG_kind (base max : Nat) (l : List UInt8) (n : Nat) : (puG base max l n).2 = 0 ∨ (puG base max l n).2 = 1 ∨ (puG base max l n).2 = 2 := by
  induction l generalizing n with
  | nil => exact .inl rfl
  | cons c l ih =>
    rw [puG]
    split
    · exact .inr (.inr rfl)
    · split
      · exact .inr (.inl rfl)
      · exact ih _
theorem puS_kind (base max : Nat) (l : List UInt8) : (puS base max l).2 = 0 ∨ (puS base max l).2 = 1 ∨ (puS base max l).2 = 2 := by
  unfold puS
  split
  · exact .inr (.inr rfl)
  · exact puG_kind _ _ _ _
/-- the number, and an error that is none just where the digits are a number -/
def SpPost (R : Nat × Nat) (w : World) (e : Ending) (w' : World) : Prop :=
  ∃ ev, e = .returned (.tuple #[.int .u64 (R.1 : Nat), ev]) ∧ ((R.2 = 0 ∧ ev = .nilIface) ∨ (R.2 ≠ 0 ∧ ∃ N, ev = .iface 304 (.pointer (some ⟨N, 0, none⟩)))) ∧ Below w.heap.size w w'
theorem spu_any (base : Int) (b : Nat) (l : List UInt8) (w : World) (hl : l.length ≤ 1000000) (hev : EV w)
    (hc : ∀ w, Calls Tryz.prog 184 #[.string (bs l), .int .i64 base, .int .i64 40] w fun e w' => PuPost (puS b 1099511627775 l) w e w') :
    Calls Tryz.prog 151 #[.string (bs l), .int .i64 base, .int .i64 40] w fun e w' => SpPost (puS b 1099511627775 l) w e w' := by
  have c := hid (hc w)
  have hk := puS_kind b 1099511627775 l
  have HEV := hid hev
  clear hc hev
  unfold SpPost
  unfold PuPost at c
  generalize puS b 1099511627775 l = R at *
  obtain ⟨x, k⟩ := R
  simp only at c hk ⊢
  rcases hk with rfl | rfl | rfl
  · rw [errV_zero] at c
    go_enter Tryz.func151, Tryz.ntmps151
    go_wp2_with fail
    refine c.out.mono ?_
    rintro e w1 ⟨rfl, hb1⟩
    go_wp2
    go_ret2
    exact ⟨_, rfl, .inl ⟨trivial, rfl⟩, hb1⟩
  · rw [errV_pos _ 1 (by omega)] at c
    have ct := fun ev w1 (hv : w1.cell? ⟨6, 0, none⟩ = some ev) h => hid (Tryz.strconv_toError_range ⟨#[80, 97, 114, 115, 101, 85, 105, 110, 116]⟩ (bs l) base 40 ev w1 (by rw [bs_size]; omega) hv h)
    go_enter Tryz.func151, Tryz.ntmps151
    go_wp2_with fail
    refine c.out.mono ?_
    rintro e w1 ⟨rfl, hb1⟩
    obtain ⟨_, ⟨te, pe, h1⟩⟩ := HEV.out.below hb1
    have H1 := hid h1; clear h1
    go_wp2_with fail
    refine (ct _ _ H1.out (.inr ⟨te, pe, rfl⟩)).out.mono ?_
    rintro e w2 ⟨N, rfl, _, _, hb2⟩
    go_wp2
    go_ret2
    exact ⟨_, rfl, .inr ⟨by omega, N, rfl⟩, hb1.trans (hb2.mono hb1.size)⟩
  · rw [errV_pos _ 2 (by omega)] at c
    have ct := fun ev w1 (hv : w1.cell? ⟨5, 0, none⟩ = some ev) h => hid (Tryz.strconv_toError_syntax ⟨#[80, 97, 114, 115, 101, 85, 105, 110, 116]⟩ (bs l) base 40 ev w1 (by rw [bs_size]; omega) hv h)
    go_enter Tryz.func151, Tryz.ntmps151
    go_wp2_with fail
    refine c.out.mono ?_
    rintro e w1 ⟨rfl, hb1⟩
    obtain ⟨⟨te, pe, h1⟩, _⟩ := HEV.out.below hb1
    have H1 := hid h1; clear h1
    go_wp2_with fail
    refine (ct _ _ H1.out (.inr ⟨te, pe, rfl⟩)).out.mono ?_
    rintro e w2 ⟨N, rfl, _, _, hb2⟩
    go_wp2
    go_ret2
    exact ⟨_, rfl, .inr ⟨by omega, N, rfl⟩, hb1.trans (hb2.mono hb1.size)⟩
end Go.Proofs.YtbimlijhgeajjaaGreatDoor

namespace Go.Proofs.YtbimlijhgeajjaaGreatDoor
open Go Go.RowKit
set_option linter.unusedVariables false
structure MonoInv (ops : Array Oper) (S : Nat → Value → World → Prop) (Ctx : World → Prop) (a0 : Act) (listed : Array Bool) (a : Act) (w : World) : Prop where
  size : listed.size = ops.size
  defers : a.defers = a0.defers
  tsize : a.tmps.size = a0.tmps.size
  vals : ∀ t : Nat, (∀ (j : Nat) oj, ops[j]? = some oj → oj.dst = some t → listed.getD j false = true) → S t (a.eval (.tmp t)) w
  ctx : Ctx w
/-- one operation's word -/
def MonoOp (F : Fence) (n : Nat) (P : Program) (Q : Exit → Act → World → Prop) (S : Nat → Value → World → Prop) (Ctx : World → Prop) (N : Nat) (o : Oper) (d : Tmp) : Prop :=
  ∀ a w, Ctx w → a.tmps.size = N → (∀ t, .tmp t ∈ o.op.operands → S t (a.eval (.tmp t)) w) →
    o.wpIn F n P a w (fun a' w' => ∃ v, a' = a.put o.dst v ∧ S d v w' ∧ Below w.heap.size w w') Q
theorem mono_walk {F : Fence} {n : Nat} {P : Program} {ops : Array Oper} {Q : Exit → Act → World → Prop} {S : Nat → Value → World → Prop} {Ctx : World → Prop} {a0 : Act} (hp : planB ops ops.size = true)
    (hS : ∀ t v w w', S t v w → Below w.heap.size w w' → S t v w') (hC : ∀ w w', Ctx w → Below w.heap.size w w' → Ctx w')
    (hrun : ∀ (i : Nat) (o : Oper) (d : Tmp), ops[i]? = some o → o.dst = some d → d < a0.tmps.size ∧ MonoOp F n P Q S Ctx a0.tmps.size o d)
    (hQ : ∀ a w, Ctx w → (∀ t, S t (a.eval (.tmp t)) w) → a.tmps.size = a0.tmps.size → a.defers = a0.defers → Q .normal a w) :
    ∀ (fuel : Nat) (listed : Array Bool) (a : Act) (w : World), MonoInv ops S Ctx a0 listed a w → ((List.range ops.size).filter fun i => !listed.getD i true).length ≤ fuel → wpAnyIn F n P .any ops Q fuel listed a w := by
  have fin : ∀ (listed : Array Bool) (a : Act) (w : World), MonoInv ops S Ctx a0 listed a w → Region.ready .any ops listed = [] → Q .normal a w := by
    intro listed a w hI h0
    have hall : ∀ j, listed.getD j true = true := fun j => by
      cases hj : listed.getD j true with
      | true => rfl
      | false => exact absurd h0 (unlisted_ready hp hI.size j hj)
    refine hQ a w hI.ctx (fun t => hI.vals t fun j oj hj hd => ?_) hI.tsize hI.defers
    have hlt := (Array.getElem?_eq_some_iff.1 hj).1
    have := hall j
    rw [Array.getD_eq_getD_getElem?, Array.getElem?_eq_getElem (by rw [hI.size]; exact hlt)] at this ⊢
    simpa using this
  intro fuel
  induction fuel with
  | zero =>
    intro listed a w hI hc
    have h0 : (List.range ops.size).filter (fun i => !listed.getD i true) = [] := List.length_eq_zero_iff.1 (by omega)
    have hr : Region.ready .any ops listed = [] := by
      refine List.filter_eq_nil_iff.2 fun j hj => ?_
      have := List.filter_eq_nil_iff.1 h0 j hj
      simp only [Bool.not_eq_true', Bool.not_eq_false] at this
      simp [this]
    exact ⟨hr, fin listed a w hI hr⟩
  | succ fuel ih =>
    intro listed a w hI hc
    refine ⟨fun h0 => fin listed a w hI h0, fun i hi => ?_⟩
    obtain ⟨hil, o, ho, hafter⟩ := mem_ready.1 hi
    have hP := plan_spec hp ho
    have hlt : i < ops.size := (Array.getElem?_eq_some_iff.1 ho).1
    have hwant : Region.wanted o (yielded ops a.tmps) = true := by simp [Region.wanted, hP.guard]
    unfold wpOpIn
    simp only [ho, hwant, if_true]
    obtain ⟨d, hd⟩ := hP.dst (by omega)
    obtain ⟨hdlt, hr⟩ := hrun i o d ho hd
    have hc' : ((List.range ops.size).filter fun j => !(listed.setIfInBounds i true).getD j true).length ≤ fuel := by
      have := unlisted_less (N := ops.size) hlt hil
      omega
    refine Oper.wpIn_mono (fun a' w' h => ?_) (hr a w hI.ctx hI.tsize fun t ht => hI.vals t fun j oj hj hjd => ?_)
    · obtain ⟨v, rfl, hv, hb⟩ := h
      refine ih _ _ _ ⟨by rw [Array.size_setIfInBounds]; exact hI.size, by rw [hd]; exact hI.defers, ?_, ?_, hC w w' hI.ctx hb⟩ hc'
      · rw [hd]; show (a.tmps.setIfInBounds d _).size = _
        rw [Array.size_setIfInBounds, hI.tsize]
      · intro t ht
        rw [hd]
        by_cases hdt : d = t
        · subst hdt
          have : (a.put (some d) v).eval (.tmp d) = v := by
            show (a.tmps.setIfInBounds d v).getD d undef = v
            have : d < a.tmps.size := by rw [hI.tsize]; exact hdlt
            simp [Array.getD, this]
          rw [this]; exact hv
        · have he : (a.put (some d) v).eval (.tmp t) = a.eval (.tmp t) := by
            show (a.tmps.setIfInBounds d v).getD t undef = a.tmps.getD t undef
            rw [Array.getD_eq_getD_getElem?, Array.getElem?_setIfInBounds, if_neg hdt, Array.getD_eq_getD_getElem?]
          rw [he]
          refine hS _ _ _ _ (hI.vals t fun j oj hj hjd => ?_) hb
          have h1 := ht j oj hj hjd
          rw [getD_mark, if_neg] at h1
          · exact h1
          · rintro ⟨rfl, _⟩
            rw [ho] at hj; cases hj
            rw [hd] at hjd; cases hjd; exact hdt rfl
    · obtain ⟨e, he, hb, rfl⟩ := hP.reads t ht j oj hj hjd
      exact hafter e he hb
theorem region_mono {F : Fence} {n : Nat} {P : Program} {id : Nat} {l : List Oper} {Q : Exit → Act → World → Prop} (S : Nat → Value → World → Prop) (Ctx : World → Prop) {a : Act} {w : World} (hm : P.follows .mixedOrders = true)
    (hp : planB l.toArray l.toArray.size = true) (hS : ∀ t v w w', S t v w → Below w.heap.size w w' → S t v w') (hC : ∀ w w', Ctx w → Below w.heap.size w w' → Ctx w')
    (h0 : Ctx w.drew) (hinit : ∀ t, t ∉ writes l.toArray → S t (a.eval (.tmp t)) w.drew)
    (hrun : EachOp (fun _ o d => d < a.tmps.size ∧ MonoOp F n P Q S Ctx a.tmps.size o d) 0 l)
    (hQ : ∀ a' w', Ctx w' → (∀ t, S t (a'.eval (.tmp t)) w') → a'.tmps.size = a.tmps.size → a'.defers = a.defers → Q .normal a' w') :
    (Code.region id l.toArray true).wpIn F n P Q a w := by
  refine wpIn_region_any hm (mono_walk (a0 := a) hp hS hC (fun i o d hi hd => by simpa using eachOp_get hrun i o d hi hd) hQ _ _ _ _ ⟨by simp, rfl, rfl, fun t ht => hinit t ?_, h0⟩ ?_)
  · intro hw
    obtain ⟨oj, hoj, hd⟩ := List.mem_filterMap.1 hw
    obtain ⟨j, hj, rfl⟩ := List.mem_iff_getElem.1 hoj
    have := ht j _ (by simp at hj ⊢) hd
    rw [Array.getD_eq_getD_getElem?, Array.getElem?_replicate] at this
    split at this <;> simp at this
  · exact Nat.le_trans (List.length_filter_le _ _) (by simp)
/-- an operation comes to a value, at once or by a call, and turns nothing that is there -/
def OpTo (F : Fence) (n : Nat) (P : Program) (aF : Act) (o : Oper) (d : Tmp) (w : World) : Prop :=
  match (execOp aF.eval o).run P w with
  | .ok (.value v) w' => v = aF.eval (.tmp d) ∧ Below w.heap.size w w'
  | .ok (.enter f args) w' => (F.depth.isSome = true → 1 ≤ n) ∧ CallsIn F (n - 1) P f args w' (fun e w'' => e = .returned (aF.eval (.tmp d)) ∧ Below w.heap.size w w'')
  | _ => False
theorem region_calls {F : Fence} {n : Nat} {P : Program} {id : Nat} {l : List Oper} {Q : Exit → Act → World → Prop} (aF : Act) (Ctx : World → Prop) {a : Act} {w : World} (hm : P.follows .mixedOrders = true)
    (hp : planB l.toArray l.toArray.size = true) (hC : ∀ w w', Ctx w → Below w.heap.size w w' → Ctx w')
    (h0 : Ctx w.drew) (hd : a.defers = aF.defers) (ha : Agree (writes l.toArray) 0 a.tmps.toList aF.tmps.toList)
    (hrun : EachOp (fun _ o d => d < aF.tmps.size ∧ ∀ w, Ctx w → (∀ f, o.about P w aF.eval = some f → F.fn f) ∧ OpTo F n P aF o d w) 0 l)
    (hQ : ∀ w', Ctx w' → Q .normal aF w') :
    (Code.region id l.toArray true).wpIn F n P Q a w := by
  obtain ⟨g1, g2⟩ := ha.get
  have hsz : a.tmps.size = aF.tmps.size := by simpa using g1
  refine wpIn_region_any hm (mono_walk (a0 := a) (S := fun t v _ => v = aF.eval (.tmp t)) (Ctx := Ctx) hp (fun _ _ _ _ h _ => h) hC (fun i o d hi hod => ?_) (fun a' w' hc hS hs hdd => ?_) _ _ _ _ ⟨by simp, rfl, rfl, fun t ht => ?_, h0⟩ ?_)
  · have hP := plan_spec hp hi
    obtain ⟨hlt, hr⟩ := eachOp_get hrun i o d hi hod
    refine ⟨by rw [hsz]; exact hlt, fun a w hc hN hR => ?_⟩
    have hsame : ∀ x ∈ o.op.operands, a.eval x = aF.eval x := by
      intro x hx
      cases x with
      | tmp t => exact hR t hx
      | _ => rfl
    have hex := execOp_congr o hP.nosel hsame
    have hab := about_congr (P := P) o w hsame
    obtain ⟨h1, h2⟩ := hr w hc
    unfold Oper.wpIn
    rw [hab, Oper.semAt_eq _ _ _ hP.nodefer, hex]
    refine ⟨h1, ?_⟩
    unfold OpTo at h2
    split at h2
    · rename_i v w' heq
      rw [heq]
      exact ⟨v, rfl, h2.1, h2.2⟩
    · rename_i f args w' heq
      rw [heq]
      refine ⟨h2.1, h2.2.mono ?_⟩
      rintro e w'' ⟨rfl, hb⟩
      exact ⟨_, rfl, rfl, hb⟩
    · exact h2.elim
  · have haF : a' = aF := by
      have ht : a'.tmps = aF.tmps := by
        refine Array.ext_getElem? fun t => ?_
        have h1 := hS t
        by_cases hlt : t < aF.tmps.size
        · have hlt2 : t < a'.tmps.size := by omega
          simp only [Act.eval, Array.getD_eq_getD_getElem?, Array.getElem?_eq_getElem hlt, Array.getElem?_eq_getElem hlt2, Option.getD_some] at h1
          rw [Array.getElem?_eq_getElem hlt, Array.getElem?_eq_getElem hlt2, h1]
        · rw [Array.getElem?_eq_none (by omega), Array.getElem?_eq_none (by omega)]
      have hd2 : a'.defers = aF.defers := hdd.trans hd
      cases a'; cases aF
      simp only at ht hd2
      rw [ht, hd2]
    rw [haF]; exact hQ w' hc
  · have hw : t ∉ writes l.toArray := by
      intro hw
      obtain ⟨oj, hoj, hd⟩ := List.mem_filterMap.1 hw
      obtain ⟨j, hj, rfl⟩ := List.mem_iff_getElem.1 hoj
      have := ht j _ (by simp at hj ⊢) hd
      rw [Array.getD_eq_getD_getElem?, Array.getElem?_replicate] at this
      split at this <;> simp at this
    have := g2 t (by simpa using hw)
    simp only [Act.eval, Array.getD_eq_getD_getElem?]
    have e : a.tmps[t]? = aF.tmps[t]? := by simpa using this
    rw [e]
  · exact Nat.le_trans (List.length_filter_le _ _) (by simp)
/-- a frame, some slots written -/
def putAll (a : Act) (ps : List (Nat × Value)) : Act := { a with tmps := ps.foldl (fun t p => t.setIfInBounds p.1 p.2) a.tmps }
theorem putAll_size (a : Act) (ps : List (Nat × Value)) : (putAll a ps).tmps.size = a.tmps.size := by
  unfold putAll
  simp only
  generalize a.tmps = t
  induction ps generalizing t with
  | nil => rfl
  | cons p ps ih => rw [List.foldl_cons, ih, Array.size_setIfInBounds]
theorem putAll_get (a : Act) (ps : List (Nat × Value)) (t : Nat) (h : t ∉ ps.map (·.1)) : (putAll a ps).tmps[t]? = a.tmps[t]? := by
  unfold putAll
  simp only
  generalize a.tmps = x
  induction ps generalizing x with
  | nil => rfl
  | cons p ps ih =>
    simp only [List.map_cons, List.mem_cons, not_or] at h
    rw [List.foldl_cons, ih h.2, Array.getElem?_setIfInBounds, if_neg (fun e => h.1 e.symm)]
theorem agree_of (ds : List Nat) : ∀ (l m : List Value) (k : Nat), l.length = m.length → (∀ t : Nat, k + t ∉ ds → l[t]? = m[t]?) → Agree ds k l m
  | [], [], _, _, _ => trivial
  | x :: xs, y :: ys, k, hl, h => by
    refine ⟨?_, agree_of ds xs ys (k + 1) (by simpa using hl) fun t ht => ?_⟩
    · split
      · trivial
      · rename_i hc
        have := h 0 (by simpa using hc)
        simpa using this
    · have := h (t + 1) (by rw [← Nat.add_assoc, Nat.add_right_comm]; exact ht)
      simpa using this
  | [], _ :: _, _, hl, _ => by simp at hl
  | _ :: _, [], _, hl, _ => by simp at hl
/-- the same, the slots given that the region writes -/
theorem region_puts {F : Fence} {n : Nat} {P : Program} {id : Nat} {l : List Oper} {Q : Exit → Act → World → Prop} (ps : List (Nat × Value)) {aF : Act} (Ctx : World → Prop) {a : Act} {w : World} (haF : putAll a ps = aF) (hm : P.follows .mixedOrders = true)
    (hk : (ps.map (·.1)).all (fun t => (writes l.toArray).contains t) = true)
    (hp : planB l.toArray l.toArray.size = true) (hC : ∀ w w', Ctx w → Below w.heap.size w w' → Ctx w')
    (h0 : Ctx w.drew)
    (hrun : EachOp (fun _ o d => d < aF.tmps.size ∧ ∀ w, Ctx w → (∀ f, o.about P w aF.eval = some f → F.fn f) ∧ OpTo F n P aF o d w) 0 l)
    (hQ : ∀ w', Ctx w' → Q .normal aF w') :
    (Code.region id l.toArray true).wpIn F n P Q a w := by
  subst haF
  refine region_calls (putAll a ps) Ctx hm hp hC h0 rfl (agree_of _ _ _ _ ?_ fun t ht => ?_) hrun hQ
  · simpa using (putAll_size a ps).symm
  · have := putAll_get a ps t fun h => by
      have := List.all_eq_true.1 hk t h
      exact ht (by simpa using this)
    simpa using this.symm
end Go.Proofs.YtbimlijhgeajjaaGreatDoor
