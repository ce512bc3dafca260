/- The pairs that a text is, by the document. -/
import Derived.Test.YtbbnnhaboegedaaDoorSplit1
import Derived.Test.YtbbnnhaboegedaaDoorParse
import Derived.Test.YtbbnnhaboegedaaDoorRKey
import Derived.Test.YtbbnnhaboegedaaDoorIndexByte
namespace Go.Proofs.YtbbnnhaboegedaaDoor
open Go.RowKit
set_option linter.unusedVariables false
set_option maxRecDepth 100000
/-- the pairs that pieces are -/
def parseR : List (List UInt8) → Nat → PL × Nat × Int
  | [], _ => ([], 0, -1)
  | [x], i => if x = [] then ([], 0, -1) else ([], 7, (i : Int))
  | x :: y :: ps, i => if (cutL 61 x).2.2 = false then ([], 3, (i : Int)) else if i = 60 then ([], 4, -1) else
    if isKey (cutL 61 x).1 = false then ([], 5, (i : Int)) else if isValue (cutL 61 x).2.1 = false then ([], 3, (i : Int)) else
    (((cutL 61 x).1, (cutL 61 x).2.1) :: (parseR (y :: ps) (i + 1)).1, (parseR (y :: ps) (i + 1)).2)
theorem parse_same (f : Nat) (s : List UInt8) (i : Nat) (h : s.length < f) : parseR (splitL 0 s) i = parseP f s i := by
  induction f generalizing s i with
  | zero => omega
  | succ f ih =>
    by_cases h0 : s = []
    · subst h0; rw [parseP_nil]; rfl
    · rw [parseP_succ f s i h0, cutL_split]
      have hl := cutL_length 0 s
      cases hc : (cutL 0 s).2.2 with
      | false => simp [parseR, h0]
      | true =>
        rw [if_pos rfl, if_neg (by simp)]
        have hl := hl hc
        obtain ⟨y, ps, hy⟩ : ∃ y ps, splitL 0 (cutL 0 s).2.1 = y :: ps := by
          cases hp : splitL 0 (cutL 0 s).2.1 with
          | nil => exact absurd hp (splitL_ne _ _)
          | cons y ps => exact ⟨y, ps, rfl⟩
        rw [hy, parseR, ← hy, ih _ _ (by omega)]
theorem parseR_step (x : List UInt8) (ps : List (List UInt8)) (i : Nat) (h : ps ≠ []) : parseR (x :: ps) i = if (cutL 61 x).2.2 = false then ([], 3, (i : Int)) else if i = 60 then ([], 4, -1) else
    if isKey (cutL 61 x).1 = false then ([], 5, (i : Int)) else if isValue (cutL 61 x).2.1 = false then ([], 3, (i : Int)) else
    (((cutL 61 x).1, (cutL 61 x).2.1) :: (parseR ps (i + 1)).1, (parseR ps (i + 1)).2) := by
  cases ps with
  | nil => exact absurd rfl h
  | cons y ps => rw [parseR]
def pieceLe (ps : List (List UInt8)) (n : Nat) : Prop := ∀ p ∈ ps, p.length ≤ n
theorem splitL_le (c : UInt8) (l : List UInt8) : pieceLe (splitL c l) l.length := by
  induction l with
  | nil => intro p hp; simp [splitL] at hp; simp [hp]
  | cons b l ih =>
    rw [splitL]
    split
    · intro p hp
      rcases List.mem_cons.1 hp with rfl | hp
      · simp
      · have := ih p hp; simp; omega
    · rename_i hb
      cases hs : splitL c l with
      | nil => exact absurd hs (splitL_ne _ _)
      | cons q qs =>
        rw [hs] at ih
        intro p hp
        rcases List.mem_cons.1 hp with rfl | hp
        · have := ih q (by simp); simp; omega
        · have := ih p (by simp [hp]); simp; omega
def UnpPost (R : PL × Nat × Int) (w : World) (e : Ending) (w' : World) : Prop :=
  (∃ v, e = .returned (.tuple #[v, faultV R.2.1 R.2.2]) ∧ PSl w' v (if R.2.1 = 0 then R.1 else []) ∧ FreshV w.heap.size v) ∧ Below w.heap.size w w'
theorem unpPost_bad {R : PL × Nat × Int} {xs : PL} {k : Nat} {pl : Int} {w w' : World} (hR : R = (xs, k, pl)) (hk : 0 < k) (hb : Below w.heap.size w w') : UnpPost R w (.returned (.tuple #[.slice none 0 0, .agg #[.int .i64 k, .int .i64 pl]])) w' := by
  subst hR
  exact ⟨⟨_, rfl, by rw [if_neg (by simp; omega)]; exact psl_nil _, freshV_nil _⟩, hb⟩
def RUnp (R : PL × Nat × Int) (ps : List (List UInt8)) (w1 : World) (v i : Value) (wr : World) : Prop :=
  ∃ (k : Nat) (xs : PL), k + 1 ≤ ps.length ∧ k ≤ 60 ∧ xs.length = k ∧ i = .int .i64 (k : Nat) ∧ R = (xs ++ (parseR (ps.drop k) k).1, (parseR (ps.drop k) k).2) ∧
    wr.ownsRow w1.heap.size 47 2 v xs.length (pairCells xs) ∧ Below w1.heap.size w1 wr
set_option maxHeartbeats 4000000 in
theorem unpairs_any (l : List UInt8) (w : World) (hl : l.length ≤ 1099511627776) :
    Calls Tryd.prog 22 #[.string (bs l)] w fun e w' => UnpPost (parseP (l.length + 1) l 0) w e w' := by
  have e00 : (⟨#[0]⟩ : ByteArray) = bs [0] := rfl
  have c1 := fun w => hid (split1_any 0 l w hl)
  rw [← parse_same (l.length + 1) l 0 (by omega)]
  have hne := splitL_ne 0 l
  have hple := splitL_le 0 l
  have hcnt := splitL_length 0 l
  have hcl : l.count 0 ≤ l.length := List.count_le_length
  generalize splitL 0 l = ps at *
  have hps1 : 1 ≤ ps.length := List.length_pos_iff.2 hne
  have hpsl : ps.length ≤ 1099511627777 := by omega
  clear hcnt hcl hne
  generalize hR : parseR ps 0 = R
  have HR := hid hR; clear hR
  have hsub : IntKind.i64.wrap ((ps.length : Int) - 1) = ((ps.length - 1 : Nat) : Int) := by rw [IntKind.wrap_i64]; omega
  have hb0 : Below w.heap.size w (w.alloc (.cells #[.int .i64 0, .int .i64 0] 28)) := (Below.refl _ _).alloc (Nat.le_refl _) _
  have hF := heap_alloc_new w (.cells #[.int .i64 0, .int .i64 0] 28)
  have hP := heap_alloc_new (w.alloc (.cells #[.int .i64 0, .int .i64 0] 28)) (.cells (sArr ps) 9)
  have hF1 := (Below.heap_alloc (w.alloc (.cells #[.int .i64 0, .int .i64 0] 28)) (.cells (sArr ps) 9) w.heap.size (by simp)).trans hF
  have hb1 := hb0.alloc hb0.size (.cells (sArr ps) 9)
  have hsz1 : w.heap.size + 1 < ((w.alloc (.cells #[.int .i64 0, .int .i64 0] 28)).alloc (.cells (sArr ps) 9)).heap.size := by simp
  have hE : (w.alloc (.cells #[.int .i64 0, .int .i64 0] 28)).heap.size = w.heap.size + 1 := by simp
  rw [hE] at hP
  have Hx := hid (And.intro hF1 hP)
  clear hF hP hF1 hE hb0
  go_enter Tryd.func22, Tryd.ntmps22
  go_wp2_with fail
  refine (c1 _).out.mono ?_; rintro e w1 ⟨rfl, rfl⟩
  clear c1
  generalize ((w.alloc (.cells #[.int .i64 0, .int .i64 0] 28)).alloc (.cells (sArr ps) 9)) = w1 at *
  have hbA := hb1
  have hgs : ∀ k, k < ps.length → w1.cell? ⟨w.heap.size + 1, k, none⟩ = some (.string (bs (ps.getD k []))) := by
    intro k hk; rw [cell_of_row _ _ _ _ _ _ Hx.out.2, sArr_get _ _ hk]; simp [List.getD, hk, bs]
  have Hgs := hid hgs; clear hgs
  have HF := hid Hx.out.1
  clear Hx
  go_wp2_with fail
  go_loopw [4, 17] (fun v i wr => RUnp R ps w1 v i wr) (fun _ i _ => ps.length - (intOf i).toNat)
  case atStart => exact ⟨0, [], by omega, by omega, rfl, rfl, by rw [← HR.out]; simp, World.ownsRow_nil _ _ _ _, Below.refl _ _⟩
  case round =>
    obtain ⟨k, xs, hk, hk60, hxk, rfl, heq, hown, hb⟩ := hrel
    have hB := hb.size
    have hszw : w.heap.size < wr.heap.size := by omega
    have hblk := (hb.block w.heap.size (by omega)).trans HF.out
    have q0 : wr.cell? ⟨w.heap.size, 0, none⟩ = some (.int .i64 0) := by rw [cell_of_row _ _ _ _ _ _ hblk]; rfl
    have q1 : wr.cell? ⟨w.heap.size, 1, none⟩ = some (.int .i64 0) := by rw [cell_of_row _ _ _ _ _ _ hblk]; rfl
    have f0 : wr.frozen? ⟨w.heap.size, 0, none⟩ = false := frozen_of_row _ _ _ _ _ hblk
    have f1 : wr.frozen? ⟨w.heap.size, 1, none⟩ = false := frozen_of_row _ _ _ _ _ hblk
    clear hblk
    have hg := (hb.cell (p := ⟨w.heap.size + 1, k, none⟩) (by simp; omega)).trans (Hgs.out k (by omega))
    by_cases hlt : k + 1 < ps.length
    · have hdr : ps.drop k = ps.getD k [] :: ps.drop (k + 1) := by rw [List.drop_eq_getElem_cons (by omega)]; simp [List.getD, show k < ps.length by omega]
      have hxl : (ps.getD k []).length ≤ l.length := hple _ (by rw [List.getD, List.getElem?_eq_getElem (by omega)]; simp)
      rw [hdr, parseR_step _ _ _ (by intro h; have := congrArg List.length h; simp at this; omega)] at heq
      clear hdr
      generalize ps.getD k [] = x at *
      have hlt' : (k : Int) < ((ps.length - 1 : Nat) : Int) := by omega
      have hltN : k < ps.length - 1 := by omega
      have c1 := fun w => hid (sIndexByte_any x 61 w (by omega))
      rcases idx_cases x 61 with ⟨h1, h2⟩ | ⟨j, h1, hj, h3, h4⟩
      · rw [cutL_none 61 x h2, if_pos rfl] at heq
        rw [h1] at c1
        simp only [List.append_nil] at heq
        have Heq := hid heq; clear heq h1 h2
        go_wp2_with (go_at_call 45; refine (c1 _).out.mono ?_; rintro e w2 ⟨rfl, rfl⟩)
        refine bodyPost_ret (v := .tuple #[.slice none 0 0, .agg #[.int .i64 3, .int .i64 (k : Nat)]]) (by simp [results, Tryd.results22, go_sem, q0, q1]) rfl ?_
        exact unpPost_bad (k := 3) Heq.out (by omega) (((hbA.trans (hb.mono hbA.size)).setCell (Nat.le_refl _) _).setCell (Nat.le_refl _) _)
      · rw [cutL_idx 61 x j h3 h4, if_neg (by simp)] at heq
        rw [h1] at c1
        simp only at heq
        clear h1 h3 h4
        have hbW := hbA.trans (hb.mono hbA.size)
        by_cases h60 : k = 60
        · rw [if_pos h60] at heq
          simp only [List.append_nil] at heq
          have hb60 : ((k : Int) == 60) = true := by rw [beq_iff_eq]; omega
          have Heq := hid heq; clear heq h60
          go_wp2_with first
            | (go_at_call 45; refine (c1 _).out.mono ?_; rintro e w2 ⟨rfl, rfl⟩)
            | (go_at_call 44; refine (bareF_any _ _).mono ?_; rintro e w3 ⟨rfl, hb3⟩; have q0 := (hb3.cell (p := ⟨w.heap.size, 0, none⟩) hszw).trans q0; have q1 := (hb3.cell (p := ⟨w.heap.size, 1, none⟩) hszw).trans q1; have f0 := (hb3.frozen (p := ⟨w.heap.size, 0, none⟩) hszw).trans f0; have f1 := (hb3.frozen (p := ⟨w.heap.size, 1, none⟩) hszw).trans f1)
          refine bodyPost_ret (v := .tuple #[.slice none 0 0, .agg #[.int .i64 4, .int .i64 (-1)]]) (by simp [results, Tryd.results22, go_sem, q0, q1]) rfl ?_
          exact unpPost_bad (k := 4) Heq.out (by omega) (((hbW.trans (hb3.mono hbW.size)).setCell (Nat.le_refl _) _).setCell (Nat.le_refl _) _)
        · rw [if_neg h60] at heq
          have hb60 : ((k : Int) == 60) = false := by rw [beq_eq_false_iff_ne]; omega
          have hk59 : k ≤ 59 := by omega
          have c2 := fun w => hid (rkey_any (x.take j) w (by simp; omega))
          have c3 := fun w => hid (rvalue_any (x.drop (j + 1)) w (by simp; omega))
          have s1 : IntKind.i64.wrap ((j : Int) + 1) = (j : Int) + 1 := by rw [IntKind.wrap_i64]; omega
          have s2 : (0 : Int) ≤ (j : Int) + 1 := by omega
          have s3 : ((j : Int) + 1).toNat = j + 1 := by omega
          have s4 : (j : Int) + 1 ≤ (x.length : Int) := by omega
          have s5 : (j : Int) ≤ (x.length : Int) := by omega
          clear h60
          cases hk1 : isKey (x.take j) with
          | false =>
            rw [hk1] at c2
            rw [if_pos hk1] at heq
            simp only [List.append_nil] at heq
            have Heq := hid heq; clear heq hk1
            go_wp2_with first
              | (go_at_call 45; refine (c1 _).out.mono ?_; rintro e w2 ⟨rfl, rfl⟩)
              | (go_at_call 19; refine (c2 _).out.mono ?_; rintro e w3 ⟨rfl, hb3⟩; have q0 := (hb3.cell (p := ⟨w.heap.size, 0, none⟩) hszw).trans q0; have q1 := (hb3.cell (p := ⟨w.heap.size, 1, none⟩) hszw).trans q1; have f0 := (hb3.frozen (p := ⟨w.heap.size, 0, none⟩) hszw).trans f0; have f1 := (hb3.frozen (p := ⟨w.heap.size, 1, none⟩) hszw).trans f1)
            refine bodyPost_ret (v := .tuple #[.slice none 0 0, .agg #[.int .i64 5, .int .i64 (k : Nat)]]) (by simp [results, Tryd.results22, go_sem, q0, q1]) rfl ?_
            exact unpPost_bad (k := 5) Heq.out (by omega) (((hbW.trans (hb3.mono hbW.size)).setCell (Nat.le_refl _) _).setCell (Nat.le_refl _) _)
          | true =>
            rw [hk1] at c2
            rw [if_neg (by simp [hk1])] at heq
            cases hv2 : isValue (x.drop (j + 1)) with
            | false =>
              rw [hv2] at c3
              rw [if_pos hv2] at heq
              simp only [List.append_nil] at heq
              have Heq := hid heq; clear heq hk1 hv2
              go_wp2_with first
                | (go_at_call 45; refine (c1 _).out.mono ?_; rintro e w2 ⟨rfl, rfl⟩)
                | (go_at_call 19; refine (c2 _).out.mono ?_; rintro e w3 ⟨rfl, hb3⟩; have q0 := (hb3.cell (p := ⟨w.heap.size, 0, none⟩) hszw).trans q0; have q1 := (hb3.cell (p := ⟨w.heap.size, 1, none⟩) hszw).trans q1; have f0 := (hb3.frozen (p := ⟨w.heap.size, 0, none⟩) hszw).trans f0; have f1 := (hb3.frozen (p := ⟨w.heap.size, 1, none⟩) hszw).trans f1; have hszw3 := Nat.lt_of_lt_of_le hszw hb3.size)
                | (go_at_call 21; refine (c3 _).out.mono ?_; rintro e w4 ⟨rfl, hb4⟩; have q0 := (hb4.cell (p := ⟨w.heap.size, 0, none⟩) hszw3).trans q0; have q1 := (hb4.cell (p := ⟨w.heap.size, 1, none⟩) hszw3).trans q1; have f0 := (hb4.frozen (p := ⟨w.heap.size, 0, none⟩) hszw3).trans f0; have f1 := (hb4.frozen (p := ⟨w.heap.size, 1, none⟩) hszw3).trans f1)
              refine bodyPost_ret (v := .tuple #[.slice none 0 0, .agg #[.int .i64 3, .int .i64 (k : Nat)]]) (by simp [results, Tryd.results22, go_sem, q0, q1]) rfl ?_
              have hbX := hbW.trans (hb3.mono hbW.size)
              exact unpPost_bad (k := 3) Heq.out (by omega) (((hbX.trans (hb4.mono hbX.size)).setCell (Nat.le_refl _) _).setCell (Nat.le_refl _) _)
            | true =>
              rw [hv2] at c3
              rw [if_neg (by simp [hv2])] at heq
              have Heq := hid heq; clear heq hk1 hv2
              go_wp2_with first
                | (go_at_call 45; refine (c1 _).out.mono ?_; rintro e w2 ⟨rfl, rfl⟩)
                | (go_at_call 19; refine (c2 _).out.mono ?_; rintro e w3 ⟨rfl, hb3⟩)
                | (go_at_call 21; refine (c3 _).out.mono ?_; rintro e w4 ⟨rfl, hb4⟩)
              have hb5 := (hb.trans (hb3.mono hB)).trans (hb4.mono (Nat.le_trans hB hb3.size))
              have hown5 := owns_below (owns_below hown hb3) hb4
              clear hb hb3 hb4 hown c1 c2 c3 q0 q1 f0 f1 hg hbW
              have hB5 := hb5.size
              go_region_law (refine step_append_own rfl (.tmp 46) (.tmp 55) 24 rfl w1.heap.size 47 (.agg #[.string ⟨#[]⟩, .string ⟨#[]⟩]) 2 32 Tryd.underlying24 infoPair rfl (by decide) u4 xs.length (pairCells xs) (by simp [Act.eval]) (hown5.alloc _) ⟨w4.heap.size, 0, none⟩ 1 1 [.string (bs (x.take j)), .string (bs (x.drop (j + 1)))] (by simp [Act.eval]) rfl (cell_two_new _ _ _ _) (by simp [Value.oneCell']) (by unfold maxLen; omega) (by omega) (by simp; omega) ?_; intro v' w5 hown6 hgrow _)
              simp only [List.getElem_toArray, List.getElem_cons_succ, List.getElem_cons_zero, Act.put, List.setIfInBounds_toArray, List.set_cons_succ, List.set_cons_zero]
              go_wp2
              go_roundw
              case rel => exact ⟨k + 1, xs ++ [(x.take j, x.drop (j + 1))], by omega, by omega, by simp; omega, by go_num, by rw [Heq.out]; simp, by rw [pairCells_snoc, List.length_append]; exact hown6, below_append (hb5.alloc hB5 _).drew (hown5.alloc _) hgrow (by simp; omega)⟩
              case measure => simp [intOf]; omega
    · obtain hkE : k = ps.length - 1 := by omega
      have hdr : ps.drop k = [ps.getD k []] := by rw [List.drop_eq_getElem_cons (by omega), List.drop_eq_nil_of_le (by omega)]; simp [List.getD, show k < ps.length by omega]
      rw [hdr] at heq
      clear hdr
      generalize ps.getD k [] = x at *
      have hlt' : ¬ (k : Int) < ((ps.length - 1 : Nat) : Int) := by omega
      have hltN : ¬ k < ps.length - 1 := by omega
      have hbW := hbA.trans (hb.mono hbA.size)
      rw [hkE] at hg
      clear hlt
      by_cases h0 : x = []
      · subst h0
        rw [parseR, if_pos rfl] at heq
        simp only [List.append_nil] at heq
        have Heq := hid heq; clear heq
        have HkE := hid hkE; clear hkE
        go_wp2_with (go_at_call 40; refine (good_any _).mono ?_; rintro e w3 ⟨rfl, hb3⟩; have q0 := (hb3.cell (p := ⟨w.heap.size, 0, none⟩) hszw).trans q0; have q1 := (hb3.cell (p := ⟨w.heap.size, 1, none⟩) hszw).trans q1; have f0 := (hb3.frozen (p := ⟨w.heap.size, 0, none⟩) hszw).trans f0; have f1 := (hb3.frozen (p := ⟨w.heap.size, 1, none⟩) hszw).trans f1)
        refine bodyPost_ret (v := .tuple #[u4, .agg #[.int .i64 0, .int .i64 (-1)]]) (by simp [results, Tryd.results22, go_sem, q0, q1]) rfl ?_
        refine ⟨⟨u4, by rw [Heq.out]; rfl, ?_, fun a n c h => Nat.le_trans hbA.size (freshV_owns hown a n c h)⟩, ((hbW.trans (hb3.mono hbW.size)).setCell (Nat.le_refl _) _).setCell (Nat.le_refl _) _⟩
        rw [Heq.out]
        exact psl_of_owns (ownsRow_setCell_below (ownsRow_setCell_below (owns_below hown hb3) (by simp; omega) _) (by simp; omega) _)
      · rw [parseR, if_neg h0] at heq
        simp only [List.append_nil] at heq
        have Heq := hid heq; clear heq
        have hne : (!x.isEmpty) = true := by cases x with | nil => exact absurd rfl h0 | cons a b => rfl
        have HkE := hid hkE; clear hkE h0
        go_wp2_with fail
        refine bodyPost_ret (v := .tuple #[.slice none 0 0, .agg #[.int .i64 7, .int .i64 ((ps.length - 1 : Nat) : Int)]]) (by simp [results, Tryd.results22, go_sem, q0, q1]) rfl ?_
        refine unpPost_bad (k := 7) (xs := xs) ?_ (by omega) ((hbW.setCell (Nat.le_refl _) _).setCell (Nat.le_refl _) _)
        rw [Heq.out, HkE.out]
end Go.Proofs.YtbbnnhaboegedaaDoor
