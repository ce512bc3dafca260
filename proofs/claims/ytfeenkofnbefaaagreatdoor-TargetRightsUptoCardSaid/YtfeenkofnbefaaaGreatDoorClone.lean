/- What comes of an offer: plain laws. -/
import Derived.Test.YtfeenkofnbefaaaGreatDoorListPure
import Derived.Lib.IndexMore
import Derived.Lib.ItoaNum
import Derived.Test.YtfeenkofnbefaaaGreatDoorSplitPure
set_option linter.unusedSectionVars false
set_option linter.unusedSimpArgs false
set_option linter.unusedVariables false
namespace Go.Proofs.YtfeenkofnbefaaaGreatDoor
open Go
set_option linter.unusedVariables false
/-- a text without a byte ahead of that byte -/
theorem ahead_of (c : UInt8) (p r a s : List UInt8) (hp : c ∉ p) (h : p ++ c :: r = a ++ c :: s) : ∃ a', a = p ++ a' ∧ a' ++ c :: s = c :: r := by
  induction p generalizing a with
  | nil => exact ⟨a, rfl, h.symm⟩
  | cons d p ih =>
    cases a with
    | nil =>
      have := (List.cons.inj h).1
      exact absurd (by simp [this]) hp
    | cons e a =>
      obtain ⟨h1, h2⟩ := List.cons.inj h
      obtain ⟨a', rfl, h3⟩ := ih a (fun hc => hp (by simp [hc])) h2
      exact ⟨a', by rw [h1]; rfl, h3⟩
theorem both_ahead (c : UInt8) (p r q s : List UInt8) (hp : c ∉ p) (hq : c ∉ q) (h : p ++ c :: r = q ++ c :: s) : p = q := by
  obtain ⟨a, rfl, h2⟩ := ahead_of c p r q s hp h
  cases a with
  | nil => simp
  | cons d a =>
    have := (List.cons.inj h2).1
    exact absurd (by simp [this]) hq
theorem occ_iff (s sub : List UInt8) : Lib.contains s sub = true ↔ ∃ a b, s = a ++ sub ++ b := by
  unfold Lib.contains
  rw [decide_eq_true_iff]
  constructor
  · intro h
    rcases Lib.index_spec s sub with ⟨h1, _⟩ | ⟨i, _, _, h3, _⟩
    · omega
    · obtain ⟨b, hb⟩ := List.isPrefixOf_iff_prefix.1 h3
      exact ⟨s.take i, b, by rw [List.append_assoc, hb, List.take_append_drop]⟩
  · rintro ⟨a, b, rfl⟩
    rcases Lib.index_spec (a ++ sub ++ b) sub with ⟨_, h2⟩ | ⟨i, h1, _⟩
    · have := h2 a.length (by simp)
      unfold Lib.occAt at this
      rw [List.append_assoc, List.drop_left] at this
      rw [List.isPrefixOf_iff_prefix.2 ⟨b, rfl⟩] at this
      cases this
    · omega
theorem word_in (c : UInt8) (x : List UInt8) (hx : c ∉ x) : ∀ (n : Nat) (l : List UInt8), l.length ≤ n → ((∃ a b, c :: (l ++ [c]) = a ++ (c :: (x ++ [c])) ++ b) ↔ x ∈ splitL c l) := by
  intro n
  induction n with
  | zero =>
    intro l hl
    have : l = [] := List.eq_nil_of_length_eq_zero (by omega)
    subst this
    have hs : splitL c [] = [[]] := rfl
    rw [hs]
    constructor
    · rintro ⟨a, b, h⟩
      have h2 := congrArg List.length h
      have : x.length = 0 := by simp at h2; omega
      simp [List.eq_nil_of_length_eq_zero this]
    · intro h
      have : x = [] := by simpa using h
      subst this
      exact ⟨[], [], by simp⟩
  | succ n ih =>
    intro l hl
    rcases idx_cases l c with ⟨_, hn⟩ | ⟨i, _, hi, h3, h4⟩
    · rw [splitL_none c l hn]
      constructor
      · rintro ⟨a, b, h⟩
        cases a with
        | nil =>
          have h2 := (List.cons.inj h).2
          have : l ++ c :: [] = x ++ c :: b := by simpa using h2
          simp [both_ahead c l [] x b hn hx this]
        | cons d a =>
          have h2 := (List.cons.inj h).2
          have h3 : l ++ c :: [] = a ++ c :: (x ++ [c] ++ b) := by simpa using h2
          obtain ⟨a', rfl, h4⟩ := ahead_of c l [] a _ hn h3
          have h5 := congrArg List.length h4
          simp at h5
          omega
      · intro h
        have : x = l := by simpa using h
        subst this
        exact ⟨[], [], by simp⟩
    · rw [splitL_idx c l i h3 h4]
      have hlen : (l.drop (i + 1)).length ≤ n := by simp; omega
      have ih' := ih (l.drop (i + 1)) hlen
      generalize l.take i = p at *
      generalize l.drop (i + 1) = r at *
      subst h3
      rw [List.mem_cons, ← ih']
      constructor
      · rintro ⟨a, b, h⟩
        cases a with
        | nil =>
          have h2 := (List.cons.inj h).2
          have : p ++ c :: (r ++ [c]) = x ++ c :: b := by simpa using h2
          exact .inl (both_ahead c p _ x b h4 hx this).symm
        | cons d a =>
          have h2 := (List.cons.inj h).2
          have h3 : p ++ c :: (r ++ [c]) = a ++ c :: (x ++ [c] ++ b) := by simpa using h2
          obtain ⟨a', rfl, h5⟩ := ahead_of c p _ a _ h4 h3
          exact .inr ⟨a', b, by rw [← h5]; simp⟩
      · rintro (rfl | ⟨a, b, h⟩)
        · exact ⟨[], r ++ [c], by simp⟩
        · refine ⟨c :: p ++ a, b, ?_⟩
          have : c :: ((p ++ c :: r) ++ [c]) = c :: p ++ (c :: (r ++ [c])) := by simp
          rw [this, h]; simp
theorem contains_word (own x : List UInt8) (hx : (44 : UInt8) ∉ x) : Lib.contains (44 :: (own ++ [44])) (44 :: (x ++ [44])) = (splitL 44 own).contains x := by
  rw [Bool.eq_iff_iff, occ_iff, word_in 44 x hx own.length own (Nat.le_refl _)]
  simp
theorem split_free (c : UInt8) : ∀ (n : Nat) (l : List UInt8), l.length ≤ n → ∀ x ∈ splitL c l, c ∉ x := by
  intro n
  induction n with
  | zero =>
    intro l hl x hx
    have : l = [] := List.eq_nil_of_length_eq_zero (by omega)
    subst this
    have : x = [] := by simpa [splitL] using hx
    subst this
    simp
  | succ n ih =>
    intro l hl x hx
    rcases idx_cases l c with ⟨_, hn⟩ | ⟨i, _, hi, h3, h4⟩
    · rw [splitL_none c l hn] at hx
      have : x = l := by simpa using hx
      subst this; exact hn
    · rw [splitL_idx c l i h3 h4, List.mem_cons] at hx
      rcases hx with rfl | hx
      · exact h4
      · exact ih _ (by simp; omega) x hx
def yesL : List UInt8 := [89, 101, 115]
def noL : List UInt8 := [78, 111]
def KR.kind (k : KR) : Nat := dnum k.lk
def fitsK (k : KR) (v : List UInt8) : Nat :=
  if k.kind = 1 ∨ k.kind = 2 then (if v = yesL ∨ v = noL then 0 else 3) else
  if k.kind = 3 ∨ k.kind = 4 ∨ k.kind = 7 then (numeP v (dnum k.ll) (dnum k.lh)).2 else
  if k.kind = 5 then (listP v).2 else if v = [] then 3 else 0
/-- what is wrong with a value of a key -/
def fitsP (name v : List UInt8) : Nat := match findK keyRows name with | none => 5 | some k => fitsK k v
def firstIn (has : List (List UInt8)) : List (List UInt8) → List UInt8 × Nat
  | [] => ([], 8)
  | x :: l => if has.contains x then (x, 0) else firstIn has l
theorem firstIn_step (has l : List (List UInt8)) (k : Nat) (x : List UInt8) (h : l[k]? = some x) : firstIn has (l.drop k) = if has.contains x then (x, 0) else firstIn has (l.drop (k + 1)) := by
  obtain ⟨h1, h2⟩ := List.getElem?_eq_some_iff.1 h
  rw [List.drop_eq_getElem_cons h1, h2, firstIn]
theorem firstIn_end (has l : List (List UInt8)) (k : Nat) (h : l.length ≤ k) : firstIn has (l.drop k) = ([], 8) := by
  rw [List.drop_eq_nil_of_le h, firstIn]
def numO (l : List UInt8) : Nat := (numL l).getD 0
def resK (k : KR) (offer own : List UInt8) : List UInt8 × Nat :=
  if k.kind = 1 then (if offer = yesL ∧ own = yesL then yesL else noL, 0) else
  if k.kind = 2 then (if offer = yesL ∨ own = yesL then yesL else noL, 0) else
  if k.kind = 3 then (Lib.itoa (min (numO offer : Int) (numO own : Int)), 0) else
  if k.kind = 4 then (Lib.itoa (max (numO offer : Int) (numO own : Int)), 0) else
  if k.kind = 5 then firstIn (splitL 44 own) (splitL 44 offer) else (offer, 0)
def resP (name offer own : List UInt8) : List UInt8 × Nat :=
  match findK keyRows name with
  | none => ([], 5)
  | some k => if fitsK k offer ≠ 0 then ([], fitsK k offer) else if fitsK k own ≠ 0 then ([], fitsK k own) else resK k offer own
end Go.Proofs.YtfeenkofnbefaaaGreatDoor

namespace Go.Proofs.YtfeenkofnbefaaaGreatDoor
open Go Go.RowKit
set_option linter.unusedVariables false
set_option linter.unusedSectionVars false
set_option linter.unusedSimpArgs false
/-- what is wrong with a pair -/
def badK (l : PL) (k : Nat) : Nat := if (findP (l.take k) (l.getD k ([], [])).1).2 = true then 9 else fitsP (l.getD k ([], [])).1 (l.getD k ([], [])).2
def negoP (l : PL) : Nat × Int := if (pairsR l).1 ≠ 0 then pairsR l else match (List.range l.length).find? (fun k => decide (badK l k ≠ 0)) with | some k => (badK l k, (k : Int)) | none => (0, -1)
def GoodAhead (l : PL) (k : Nat) : Prop := ∀ j, j < k → badK l j = 0
theorem GoodAhead.step {l : PL} {k : Nat} (h : GoodAhead l k) (hk : badK l k = 0) : GoodAhead l (k + 1) := fun j hj => by
  rcases Nat.lt_or_ge j k with h' | h'
  · exact h j h'
  · obtain rfl : j = k := by omega
    exact hk
theorem negoP_pairs (l : PL) (h : (pairsR l).1 ≠ 0) : negoP l = pairsR l := if_pos h
theorem negoP_at (l : PL) (k : Nat) (h0 : (pairsR l).1 = 0) (hk : k < l.length) (hb : badK l k ≠ 0) (ha : GoodAhead l k) : negoP l = (badK l k, (k : Int)) := by
  unfold negoP
  rw [if_neg (by simp [h0])]
  have : (List.range l.length).find? (fun k => decide (badK l k ≠ 0)) = some k := by
    rw [List.find?_range_eq_some]
    refine ⟨by simpa using hb, by simpa using hk, fun j hj => ?_⟩
    simp [ha j hj]
  rw [this]
theorem negoP_good (l : PL) (h0 : (pairsR l).1 = 0) (ha : GoodAhead l l.length) : negoP l = (0, -1) := by
  unfold negoP
  rw [if_neg (by simp [h0])]
  have : (List.range l.length).find? (fun k => decide (badK l k ≠ 0)) = none := by
    rw [List.find?_eq_none]
    intro j hj
    rw [List.mem_range] at hj
    simp [ha j hj]
  rw [this]
end Go.Proofs.YtfeenkofnbefaaaGreatDoor

namespace Go.Proofs.YtfeenkofnbefaaaGreatDoor
open Go Go.RowKit
set_option linter.unusedVariables false
set_option linter.unusedSectionVars false
set_option linter.unusedSimpArgs false
set_option maxRecDepth 100000
theorem infoPr : (Tryz.prog.info? 77).map (fun i => (i.zero, i.size, i.bytes)) = some (some (.agg #[.string ⟨#[]⟩, .string ⟨#[]⟩]), 2, 32) := by kernel_rfl
theorem eqnilP (W : World) (a : Option Addr) (n c : Nat) : (binOp .eql 61 (.slice a n c) (.slice none 0 0)).run Tryz.prog W = .ok (.bool a.isNone) W := by
  cases a <;> rfl
set_option maxHeartbeats 4000000 in
theorem clone_any (v : Value) (l : PL) (w : World) (h : PSl w v l) (hn : l.length ≤ 1048576) :
    Calls Tryz.prog 64 #[v] w fun e w' => (∃ v', e = .returned v' ∧ w'.ownsRow w.heap.size 77 2 v' l.length (pairCells l)) ∧ Below w.heap.size w w' := by
  have hF := h
  obtain ⟨sa, sc, rfl, hcl, hcc⟩ := hF
  cases sa with
  | none =>
    have h0 : l.length = 0 := by
      rcases hcc with h | ⟨b, off, h, _⟩
      · exact h
      · cases h
    have hl : l = [] := List.length_eq_zero_iff.1 h0
    subst hl
    have he := fun W => eqnilP W none 0 sc
    simp only [Option.isNone] at he
    clear h hcc hcl
    go_enter Tryz.func64, Tryz.ntmps64
    go_wp2
    go_ret
    exact ⟨⟨_, rfl, by simpa [pairCells] using World.ownsRow_nil _ _ _ _⟩, Below.refl _ _⟩
  | some a =>
    have hown0 : (w.alloc (.cells #[] 77)).ownsRow w.heap.size 77 2 (.slice (some ⟨w.heap.size, 0, none⟩) 0 0) 0 [] :=
      ⟨rfl, .inr ⟨w.heap.size, 0, #[], rfl, Nat.le_refl _, heap_alloc_new _ _, Nat.le_refl _, by unfold maxLen; omega, rfl, rfl⟩⟩
    have hA := (Below.refl w.heap.size w).alloc (Nat.le_refl _) (.cells #[] 77)
    have hnews : ∀ j u, (pairCells l)[j]? = some u → (w.alloc (.cells #[] 77)).cell? (a.add j) = some u := by
      intro j u hu
      rcases hcc with h0 | ⟨b, off, ha, hc⟩
      · have : l = [] := List.length_eq_zero_iff.1 h0
        subst this
        simp [pairCells] at hu
      · cases ha
        rw [show (⟨b, off, none⟩ : Addr).add j = ⟨b, off + j, none⟩ by unfold Addr.add; split <;> simp_all]
        exact (hA.cell (p := ⟨b, off + j, none⟩) (block_lt_of_cell (hc j u hu))).trans (hc j u hu)
    have HO := hid hown0; have HN := hid hnews; have HA := hid hA
    have he := fun W => eqnilP W (some a) l.length sc
    simp only [Option.isNone] at he
    clear h hcc hcl hown0 hnews hA
    go_enter Tryz.func64, Tryz.ntmps64
    go_wp2_with (at_builtin; refine list_append_own rfl (.tmp 5) (.tmp 6) 61 rfl w.heap.size 77 (.agg #[.string ⟨#[]⟩, .string ⟨#[]⟩]) 2 32 Tryz.underlying61 infoPr rfl (by decide) _ 0 [] rfl HO.out a l.length sc (pairCells l) rfl (pairCells_length l) HN.out (pairCells_one l) (by unfold maxLen; omega) (by omega) (by simp) ?_; intro v' w' hown hgrow _)
    go_ret
    refine ⟨⟨_, rfl, by simpa using hown⟩, below_append HA.out HO.out hgrow (by simp)⟩
end Go.Proofs.YtfeenkofnbefaaaGreatDoor
