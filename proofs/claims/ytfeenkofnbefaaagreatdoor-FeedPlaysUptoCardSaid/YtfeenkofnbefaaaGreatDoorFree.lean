/- A map that the call makes, as a function: stores and look-ups. -/
import Derived.Test.YtfeenkofnbefaaaGreatDoorBase
import Derived.Maps.OwnSet
import Derived.Maps.Views
import Derived.Test.YtfeenkofnbefaaaGreatDoorChecked
set_option linter.unusedSectionVars false
set_option linter.unusedSimpArgs false
set_option linter.unusedVariables false
namespace Go.Proofs.YtfeenkofnbefaaaGreatDoor
open Go Go.RowKit Go.Maps
set_option linter.unusedVariables false
set_option linter.unusedSectionVars false
set_option linter.unusedSimpArgs false
section
variable {P : Program} {T K E : TypeId}
theorem plainElem_form {v : Value} {d : DataW Unit} {p : List MemPlace} (h : plainElem P E v = some (d, p)) :
    (∃ x, v = .bool x ∧ d = .lit (.bool x)) ∨ (∃ q a, v = .int q a ∧ d = .lit (.int q a)) ∨ (∃ s : ByteArray, v = .string s ∧ d = .lit (.string s.data.toList)) := by
  unfold plainElem at h
  split at h
  · simp only [Option.some.injEq, Prod.mk.injEq] at h
    exact .inl ⟨_, rfl, h.1.symm⟩
  · split at h
    · rename_i hq
      simp only [Option.some.injEq, Prod.mk.injEq] at h
      exact .inr (.inl ⟨_, _, rfl, by rw [hq.1]; exact h.1.symm⟩)
    · cases h
  · split at h
    · simp only [Option.some.injEq, Prod.mk.injEq] at h
      exact .inr (.inr ⟨_, rfl, h.1.symm⟩)
    · cases h
  · cases h
theorem plainElem_inj {v v' : Value} {d : DataW Unit} {p p' : List MemPlace} (h : plainElem P E v = some (d, p)) (h' : plainElem P E v' = some (d, p')) : v = v' := by
  rcases plainElem_form h with ⟨x, rfl, rfl⟩ | ⟨q, a, rfl, rfl⟩ | ⟨s, rfl, rfl⟩ <;> rcases plainElem_form h' with ⟨x', rfl, e⟩ | ⟨q', a', rfl, e⟩ | ⟨s', rfl, e⟩ <;> simp at e
  · rw [e]
  · rw [e.1, e.2]
  · have : s = s' := by
      cases s; cases s'
      simpa using e
    rw [this]
/-- block b is a map of at most n entries whose element at any key v is f v (z's place: where there is none) -/
def MapAs (w : World) (P : Program) (K E : TypeId) (z : DataW Unit) (b n : Nat) (f : Value → Value) : Prop :=
  ∃ D : DataW Unit, IsMap D ∧ w.ownsMap P K (plainElem P E) b n D ∧ ∀ v kl, keyOf P K v = some kl → ∃ p, plainElem P E (f v) = some (D.atKey kl z, p)
theorem MapAs.made (w : World) (z0 : Value) (z : DataW Unit) (hz : ∃ p, plainElem P E z0 = some (z, p)) : MapAs (w.alloc (.map #[] 0)) P K E z w.heap.size 0 (fun _ => z0) :=
  ⟨.map [], isMap_empty, World.ownsMap_made _ _ _ _, fun v kl h => hz⟩
theorem MapAs.kept {w w' : World} {z : DataW Unit} {b n : Nat} {f : Value → Value} {row : Option Nat} (h : MapAs w P K E z b n f) (hg : w.grownBy w' row) (hne : some b ≠ row) : MapAs w' P K E z b n f := by
  obtain ⟨D, h1, h2, h3⟩ := h
  exact ⟨D, h1, h2.kept hg hne, h3⟩
theorem MapAs.lt {w : World} {z : DataW Unit} {b n : Nat} {f : Value → Value} (h : MapAs w P K E z b n f) : b < w.heap.size := by
  obtain ⟨D, h1, h2, h3⟩ := h
  exact h2.lt
theorem MapAs.same {w w' : World} {z : DataW Unit} {b n : Nat} {f : Value → Value} (h : MapAs w P K E z b n f) (hb : w'.heap[b]? = w.heap[b]?) : MapAs w' P K E z b n f := by
  obtain ⟨D, h1, ⟨es, clock, e1, e2⟩, h3⟩ := h
  exact ⟨D, h1, ⟨es, clock, hb.trans e1, e2⟩, h3⟩
theorem MapAs.below {w w' : World} {z : DataW Unit} {b n : Nat} {f : Value → Value} (h : MapAs w P K E z b n f) (hb : Below w.heap.size w w') : MapAs w' P K E z b n f :=
  h.same (hb.block b h.lt)
theorem MapAs.fn {w : World} {z : DataW Unit} {b n : Nat} {f g : Value → Value} (h : MapAs w P K E z b n f) (hfg : ∀ v kl, keyOf P K v = some kl → f v = g v) : MapAs w P K E z b n g := by
  obtain ⟨D, h1, h2, h3⟩ := h
  exact ⟨D, h1, h2, fun v kl hk => by rw [← hfg v kl hk]; exact h3 v kl hk⟩
theorem MapAs.mono {w : World} {z : DataW Unit} {b n n' : Nat} {f : Value → Value} (h : MapAs w P K E z b n f) (hn : n ≤ n') : MapAs w P K E z b n' f := by
  obtain ⟨D, h1, h2, h3⟩ := h
  exact ⟨D, h1, h2.mono hn, h3⟩
theorem MapAs.look {w : World} {z : DataW Unit} {b n : Nat} {f : Value → Value} (h : MapAs w P K E z b n f) (L : Keyed P K) (ht : P.underlying T = some (.map K E)) {z0 : Value} (hz : (zeroValue E).run P w = .ok z0 w) (hz0 : ∃ p, plainElem P E z0 = some (z, p))
    {key : Value} {kl : Lit} (hkey : keyOf P K key = some kl) : (Instr.lookup T (.map (some b)) key false).run P w = .ok (f key) w := by
  obtain ⟨D, h1, h2, h3⟩ := h
  obtain ⟨zp, hz0⟩ := hz0
  obtain ⟨v, ps, hrun, hv⟩ := h2.lookup L ht hz hz0 hkey
  obtain ⟨p, hp⟩ := h3 key kl hkey
  rw [hrun, plainElem_inj hv hp]
theorem MapAs.put {w : World} {z : DataW Unit} {b n : Nat} {f : Value → Value} (h : MapAs w P K E z b n f) (L : Keyed P K) (ht : P.underlying T = some (.map K E)) (hn : n < maxLen)
    {key val : Value} {kl : Lit} (hkey : keyOf P K key = some kl) (hv : ∃ d p, plainElem (H := Unit) P E val = some (d, p)) :
    ∃ w', (Instr.mapUpdate T (.map (some b)) key val).run P w = .ok () w' ∧ (∀ g : Value → Value, g key = val → (∀ v, v ≠ key → g v = f v) → MapAs w' P K E z b (n + 1) g) ∧ w.grownBy w' (some b) := by
  obtain ⟨D, h1, h2, h3⟩ := h
  obtain ⟨d, ps, hv⟩ := hv
  obtain ⟨w', hrun, hown, hg⟩ := h2.update L ht hn hkey hv
  refine ⟨w', hrun, fun g e1 e2 => ⟨_, h1.put kl d, hown, fun v kl' hk => ?_⟩, hg⟩
  by_cases he : v = key
  · subst he
    rw [hkey] at hk
    cases hk
    rw [e1, atKey_put_same h1 (L.key hkey)]
    exact ⟨ps, hv⟩
  · rw [e2 v he, atKey_put_other (fun e => he (L.inj hk (by rw [e]; exact hkey)))]
    exact h3 v kl' hk
end
end Go.Proofs.YtfeenkofnbefaaaGreatDoor

namespace Go.Proofs.YtfeenkofnbefaaaGreatDoor
open Go Go.RowKit Go.Maps
set_option linter.unusedVariables false
set_option linter.unusedSectionVars false
set_option linter.unusedSimpArgs false
theorem intLaw : Keyed Tryz.prog 3 := int_keyed Tryz.underlying3
theorem zeroBool (w : World) : (zeroValue 4).run Tryz.prog w = .ok (.bool false) w := by kernel_rfl
def inF (l : List Int) (v : Value) : Value := match v with | .int .i64 i => .bool (l.contains i) | _ => .bool false
abbrev FreeM (w : World) (b n : Nat) (l : List Int) : Prop := MapAs w Tryz.prog 3 4 (.lit (.bool false)) b n (inF l)
theorem elemBool (x : Bool) : ∃ p, plainElem (H := Unit) Tryz.prog 4 (.bool x) = some (.lit (.bool x), p) := ⟨[], plainElem_bool Tryz.underlying4 x⟩
theorem intKey (i : Int) (h0 : -9223372036854775808 ≤ i) (h1 : i ≤ 9223372036854775807) : keyOf Tryz.prog 3 (.int .i64 i) = some (.int .i64 i) :=
  keyOf_int_mk Tryz.underlying3 (WalkArith.wf_i64 (by omega))
theorem FreeM.made (w : World) : FreeM (w.alloc (.map #[] 0)) w.heap.size 0 [] :=
  (MapAs.made w (.bool false) _ (elemBool false)).fn fun v kl h => by cases v <;> try rfl
                                                                      rename_i k i
                                                                      cases k <;> rfl
theorem FreeM.look {w : World} {b n : Nat} {l : List Int} (h : FreeM w b n l) (i : Int) (h0 : -9223372036854775808 ≤ i) (h1 : i ≤ 9223372036854775807) :
    (Instr.lookup 234 (.map (some b)) (.int .i64 i) false).run Tryz.prog w = .ok (.bool (l.contains i)) w :=
  MapAs.look h intLaw Tryz.underlying234 (zeroBool w) (elemBool false) (intKey i h0 h1)
theorem FreeM.put {w : World} {b n : Nat} {l : List Int} (h : FreeM w b n l) (hn : n < 1000000) (i : Int) (h0 : -9223372036854775808 ≤ i) (h1 : i ≤ 9223372036854775807) :
    ∃ w', (Instr.mapUpdate 234 (.map (some b)) (.int .i64 i) (.bool true)).run Tryz.prog w = .ok () w' ∧ FreeM w' b (n + 1) (i :: l) ∧ w.grownBy w' (some b) := by
  obtain ⟨w', hr, hf, hg⟩ := MapAs.put h intLaw Tryz.underlying234 (by unfold maxLen; omega) (intKey i h0 h1) ⟨_, elemBool true⟩
  refine ⟨w', hr, hf _ (by simp [inF]) (fun v hv => ?_), hg⟩
  cases v <;> try rfl
  rename_i k j
  cases k <;> try rfl
  simp only [inF, List.contains_cons]
  have : (j == i) = false := by
    rw [beq_eq_false_iff_ne]
    rintro rfl
    exact hv rfl
  rw [this, Bool.false_or]
end Go.Proofs.YtfeenkofnbefaaaGreatDoor
