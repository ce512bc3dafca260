/- slices.DeleteFunc of pairs of a key. -/
import Derived.Test.YtbimlijhgeajjaaGreatDoorChapFind
import Derived.Test.YtbimlijhgeajjaaGreatDoorRange
import Derived.Test.YtbimlijhgeajjaaGreatDoorYes
import Derived.Test.YtbimlijhgeajjaaGreatDoorNego
import Derived.Lib.SliceRun
import Derived.Deep.DeepCutAuto
import Derived.Test.YtbimlijhgeajjaaGreatDoorAhsW
set_option linter.unusedSectionVars false
set_option linter.unusedSimpArgs false
set_option linter.unusedVariables false
namespace Go.Proofs.YtbimlijhgeajjaaGreatDoor
open Go Go.RowKit
set_option linter.unusedVariables false
set_option linter.unusedSectionVars false
set_option linter.unusedSimpArgs false
set_option maxRecDepth 100000
theorem clo2_any (u : List UInt8 × List UInt8) (n : List UInt8) (p : Nat) (w : World) (hp : w.cell? ⟨p, 0, none⟩ = some (.string (bs n))) :
    Calls Tryz.prog 48 #[.agg #[.string (bs u.1), .string (bs u.2)], .pointer (some ⟨p, 0, none⟩)] w fun e w' => e = .returned (.bool (u.1 == n)) ∧ Below w.heap.size w w' := by
  have hp2 : (w.alloc (.cells #[.string (bs u.1), .string (bs u.2)] 83)).cell? ⟨p, 0, none⟩ = some (.string (bs n)) := (((Below.refl w.heap.size w).alloc (Nat.le_refl _) _).cell (p := ⟨p, 0, none⟩) (block_lt_of_cell hp)).trans hp
  go_enter Tryz.func48, Tryz.ntmps48
  go_wp2
  go_ret
  exact ⟨rfl, (Below.refl _ _).alloc (Nat.le_refl _) _⟩
set_option maxHeartbeats 4000000 in
theorem idx2_any (v : Value) (l : PL) (n : List UInt8) (p : Nat) (w : World) (h : PSl w v l) (hn : l.length ≤ 9223372036854775807) (hp : w.cell? ⟨p, 0, none⟩ = some (.string (bs n))) :
    Calls Tryz.prog 92 #[v, .func (.func 48) #[] #[.pointer (some ⟨p, 0, none⟩)]] w fun e w' => e = .returned (.int .i64 (idxU l n)) ∧ Below w.heap.size w w' := by
  rcases h.open_ with ⟨rfl, a, c, rfl⟩ | ⟨h0, b, o, c, rfl, hbl, hcell⟩
  · clear h
    go_enter Tryz.func92, Tryz.ntmps92
    go_wp2
    refine wp_loop_rounds 1 ?_
    rw [rounds_succ]
    go_wp2
    go_ret
    exact ⟨rfl, Below.refl _ _⟩
  clear h
  have Hcell := hid hcell; clear hcell
  have HP := hid hp; clear hp
  go_enter Tryz.func92, Tryz.ntmps92
  go_wp2
  go_loopw [8] (fun i wr => RUsr l n w i wr) (fun i _ => l.length - (intOf i).toNat)
  case atStart => exact ⟨0, by omega, rfl, hid (notAhead_zero l n), Below.refl _ _⟩
  case round =>
    obtain ⟨k, hk, rfl, HN, hb⟩ := hrel
    have hB := hb.size
    by_cases hlt : k < l.length
    · obtain ⟨c0, c1⟩ := Hcell.out k hlt
      have g0 := (hb.cell (p := ⟨b, o + k * 2, none⟩) hbl).trans c0
      have g1 := (hb.cell (p := ⟨b, o + k * 2 + 1, none⟩) hbl).trans c1
      have hpw : wr.cell? ⟨p, 0, none⟩ = some (.string (bs n)) := (hb.cell (p := ⟨p, 0, none⟩) (block_lt_of_cell HP.out)).trans HP.out
      have cc := hid (clo2_any (l.getD k ([], [])) n p wr hpw)
      clear hpw c0 c1
      by_cases hkey : (l.getD k ([], [])).1 = n
      · have HP2 := hid (show idxU l n = (k : Nat) by unfold idxU; rw [posU_at l n k hlt hkey HN.out, if_pos hlt])
        have hbe : ((l.getD k ([], [])).1 == n) = true := beq_iff_eq.2 hkey
        rw [hbe] at cc
        clear hbe hkey
        generalize l.getD k ([], []) = x at *
        go_wp2_with fail
        refine cc.out.mono ?_
        rintro e w1 ⟨rfl, hb1⟩
        go_wp2
        go_ret
        exact ⟨by rw [HP2.out]; rfl, hb.trans (hb1.mono hB)⟩
      · have hbe : ((l.getD k ([], [])).1 == n) = false := by simpa using hkey
        have HS := hid (HN.out.step hkey)
        rw [hbe] at cc
        clear hbe hkey
        generalize l.getD k ([], []) = x at *
        go_wp2_with fail
        refine cc.out.mono ?_
        rintro e w1 ⟨rfl, hb1⟩
        go_wp2
        refine ⟨⟨k + 1, by omega, by go_num, hid HS.out, hb.trans (hb1.mono hB)⟩, by simp [intOf]; omega⟩
    · obtain rfl : k = l.length := by omega
      have HP2 := hid (show idxU l n = -1 by unfold idxU; rw [posU_none l n HN.out, if_neg (by omega)])
      go_wp2
      go_ret
      exact ⟨by rw [HP2.out]; rfl, hb⟩
theorem without_none (l : PL) (n : List UInt8) (h : ¬ posU l n < l.length) : without l n = l := by
  unfold without
  rw [List.filter_eq_self]
  intro x hx
  have hh : posU l n = l.length := by unfold posU at h ⊢; have := List.findIdx_le_length (p := fun u : List UInt8 × List UInt8 => u.1 == n) (xs := l); omega
  unfold posU at hh
  rw [List.findIdx_eq_length] at hh
  simp [hh x hx]
theorem without_take (l : PL) (n : List UInt8) (j : Nat) (hj : j < l.length) : without (l.take (j + 1)) n = without (l.take j) n ++ (if ((l.getD j ([], [])).1 == n) = true then [] else [l.getD j ([], [])]) := by
  unfold without
  rw [List.take_succ_eq_append_getElem hj, List.filter_append, List.getD, List.getElem?_eq_getElem hj]
  simp only [Option.getD_some, List.filter_cons, List.filter_nil]
  cases l[j].1 == n <;> simp
theorem without_first (l : PL) (n : List UInt8) (h : posU l n < l.length) : without (l.take (posU l n + 1)) n = l.take (posU l n) := by
  have h1 : (l.getD (posU l n) ([], [])).1 == n := by
    have := List.findIdx_getElem (p := fun u : List UInt8 × List UInt8 => u.1 == n) (xs := l) (w := h)
    rw [List.getD, List.getElem?_eq_getElem h]
    exact this
  rw [without_take l n _ h, h1, if_pos rfl, List.append_nil]
  unfold without
  rw [List.filter_eq_self]
  intro x hx
  obtain ⟨i, hi, rfl⟩ := List.getElem_of_mem hx
  rw [List.length_take] at hi
  rw [List.getElem_take]
  have := List.not_of_lt_findIdx (p := fun u : List UInt8 × List UInt8 => u.1 == n) (xs := l) (i := i) (show i < l.findIdx _ by unfold posU at hi; omega)
  simp only [this, Bool.not_false]
/-- clear of pairs -/
theorem zeroPr (w : World) : (zeroValue 83).run Tryz.prog w = .ok (.agg #[.string ⟨#[]⟩, .string ⟨#[]⟩]) w := by kernel_rfl
theorem clear_pairs (w : World) (ty : TypeId) (b o n c : Nat) (hn : 0 < n) (hc : ∀ j, j < n * 2 → (w.cell? ⟨b, o + j, none⟩).isSome = true) (hf : ∀ j, j < n * 2 → w.frozen? ⟨b, o + j, none⟩ = false) :
    (Builtin.clear_ #[28] ty #[.slice (some ⟨b, o, none⟩) n c]).run Tryz.prog w = .ok (.tuple #[]) (w.setCells b o (List.replicate (n * 2) (.string ⟨#[]⟩))) := by
  have hzc : (Builtin.zeroCells (Value.agg #[.string ⟨#[]⟩, .string ⟨#[]⟩]).cells n).toList = List.replicate (n * 2) (.string ⟨#[]⟩) := by
    simp only [Value.cells, Builtin.zeroCells]
    apply List.ext_getElem
    · simp
    · intro i h1 h2
      simp only [Array.getElem_toList, Array.getElem_map, Array.getElem_range, List.getElem_replicate]
      have : i % 2 = 0 ∨ i % 2 = 1 := by omega
      rcases this with h | h <;> simp [h]
  have hst := run_storeCells_cells (P := Tryz.prog) b o (List.replicate (n * 2) (.string ⟨#[]⟩)) 0 w (by simpa using hc) (by simpa using hf) (by intro v hv'; rw [List.eq_of_mem_replicate hv']; rfl)
  simp only [Nat.add_zero] at hst
  obtain ⟨m, rfl⟩ : ∃ m, n = m + 1 := ⟨n - 1, by omega⟩
  simp [Builtin.clear_, run_underlying Tryz.underlying28, zeroPr, hzc, hst]
/-- the row in the midst of the deletion -/
def RowAt (w : World) (g cap : Nat) (l r : PL) (j : Nat) : Prop :=
  ∃ cur : Array Value, Blk w g 83 cur ∧ cur.size = cap * 2 ∧ (∀ (q : Nat) (u : Value), (pairCells r)[q]? = some u → cur[q]? = some u) ∧ (∀ (q : Nat) (u : Value), j * 2 ≤ q → (pairCells l)[q]? = some u → cur[q]? = some u)
theorem RowAt.below {w w' : World} {g cap : Nat} {l r : PL} {j : Nat} (h : RowAt w g cap l r j) (hb : Below w.heap.size w w') : RowAt w' g cap l r j := by
  obtain ⟨cur, h1, h2⟩ := h
  exact ⟨cur, h1.below hb, h2⟩
theorem RowAt.next {w : World} {g cap : Nat} {l r : PL} {j : Nat} (h : RowAt w g cap l r j) : RowAt w g cap l r (j + 1) := by
  obtain ⟨cur, h1, h2, h3, h4⟩ := h
  exact ⟨cur, h1, h2, h3, fun q u hq => h4 q u (by omega)⟩
theorem RowAt.cells {w : World} {g cap : Nat} {l r : PL} {j : Nat} (h : RowAt w g cap l r j) (hj : j < l.length) : w.cell? ⟨g, j * 2, none⟩ = some (.string (bs (l.getD j ([], [])).1)) ∧ w.cell? ⟨g, j * 2 + 1, none⟩ = some (.string (bs (l.getD j ([], [])).2)) := by
  obtain ⟨cur, h1, h2, h3, h4⟩ := h
  obtain ⟨a, b⟩ := pairCells_at l j hj
  rw [Nat.mul_comm 2 j] at a b
  exact ⟨(h1.cell _).trans (h4 _ _ (by omega) a), (h1.cell _).trans (h4 _ _ (by omega) b)⟩
theorem RowAt.store {w : World} {g cap : Nat} {l r : PL} {j : Nat} (h : RowAt w g cap l r j) (x : List UInt8 × List UInt8) (hj : r.length < j) (hc : r.length < cap) :
    RowAt ((w.setCell ⟨g, r.length * 2, none⟩ (.string (bs x.1))).setCell ⟨g, r.length * 2 + 1, none⟩ (.string (bs x.2))) g cap l (r ++ [x]) j := by
  obtain ⟨cur, h1, h2, h3, h4⟩ := h
  refine ⟨_, (h1.set _ _).set _ _, by simp [h2], fun q u hq => ?_, fun q u hq hu => ?_⟩
  · rw [pairCells_append] at hq
    have hl := pairCells_length r
    rw [Array.getElem?_setIfInBounds, Array.getElem?_setIfInBounds]
    rcases Nat.lt_or_ge q (r.length * 2) with hq2 | hq2
    · rw [if_neg (by omega), if_neg (by omega)]
      rw [List.getElem?_append_left (by omega)] at hq
      exact h3 q u hq
    · rw [List.getElem?_append_right (by omega), hl] at hq
      have hq3 : q = r.length * 2 ∨ q = r.length * 2 + 1 := by
        have := (List.getElem?_eq_some_iff.1 hq).1
        rw [pairCells_length] at this
        simp at this
        omega
      rcases hq3 with rfl | rfl
      · rw [if_neg (by omega), if_pos rfl, if_pos (by omega)]
        simpa [pairCells] using hq
      · rw [if_pos rfl, if_pos (by simp; omega)]
        simpa [pairCells] using hq
  · rw [Array.getElem?_setIfInBounds, Array.getElem?_setIfInBounds, if_neg (by omega), if_neg (by omega)]
    exact h4 q u hq hu
theorem row_of_owns {w : World} {base g cap : Nat} {l : PL} (h : w.ownsRow base 83 2 (.slice (some ⟨g, 0, none⟩) l.length cap) l.length (pairCells l)) (j : Nat) (hj : j ≤ l.length) :
    RowAt w g cap l (l.take j) (j + 1) ∧ base ≤ g ∧ l.length ≤ cap ∧ cap ≤ maxLen := by
  rcases h.2 with ⟨h0, _⟩ | ⟨g', cap', cur, hv, hbg, hg, hnc, hcm, hcs, htake⟩
  · cases h0
  · cases hv
    refine ⟨⟨cur, hg, hcs, fun q u hq => ?_, fun q u _ hq => ?_⟩, hbg, hnc, hcm⟩
    all_goals
      have hql : (pairCells l)[q]? = some u := by
        first
          | exact hq
          | (have e : pairCells l = pairCells (l.take j) ++ pairCells (l.drop j) := by rw [← pairCells_append, List.take_append_drop]
             rw [e, List.getElem?_append_left (List.getElem?_eq_some_iff.1 hq).1]
             exact hq)
      rw [← htake, List.getElem?_take] at hql
      split at hql
      · simpa using hql
      · cases hql
theorem RowAt.some {w : World} {g cap : Nat} {l r : PL} {j : Nat} (h : RowAt w g cap l r j) (k : Nat) (hk : k < cap) : (∃ u, w.cell? ⟨g, k * 2, none⟩ = some u) ∧ (∃ u, w.cell? ⟨g, k * 2 + 1, none⟩ = some u) ∧ w.frozen? ⟨g, k * 2, none⟩ = false ∧ w.frozen? ⟨g, k * 2 + 1, none⟩ = false := by
  obtain ⟨cur, h1, h2, h3, h4⟩ := h
  refine ⟨⟨cur[k * 2]'(by omega), ?_⟩, ⟨cur[k * 2 + 1]'(by omega), ?_⟩, h1.free _, h1.free _⟩
  · rw [h1.cell, Array.getElem?_eq_getElem (by omega)]
  · rw [h1.cell, Array.getElem?_eq_getElem (by omega)]
theorem RowAt.isSome {w : World} {g cap : Nat} {l r : PL} {j : Nat} (h : RowAt w g cap l r j) (q : Nat) (hq : q < cap * 2) : (w.cell? ⟨g, q, none⟩).isSome = true ∧ w.frozen? ⟨g, q, none⟩ = false := by
  obtain ⟨cur, h1, h2, h3, h4⟩ := h
  exact ⟨by rw [h1.cell, Array.getElem?_eq_getElem (by omega)]; rfl, h1.free _⟩
/-- what is left owns its row -/
theorem owns_of_row {w : World} {base g cap : Nat} {T : TypeId} {r : PL} {cur : Array Value} (h : Blk w g 83 cur) (hs : cur.size = cap * 2) (hc : ∀ (q : Nat) (u : Value), (pairCells r)[q]? = some u → cur[q]? = some u) (hb : base ≤ g) (hr : r.length ≤ cap) (hm : cap ≤ maxLen) :
    w.ownsRow base 83 2 (.slice (some ⟨g, 0, none⟩) r.length cap) r.length (pairCells r) := by
  refine ⟨by rw [pairCells_length], .inr ⟨g, cap, cur, rfl, hb, h, hr, hm, hs, ?_⟩⟩
  apply List.ext_getElem?
  intro q
  rw [List.getElem?_take]
  split
  · rename_i hq
    have hq' : q < (pairCells r).length := by rw [pairCells_length]; exact hq
    have := hc q _ (List.getElem?_eq_getElem hq')
    rw [List.getElem?_eq_getElem hq']
    simpa using this
  · rename_i hq
    rw [List.getElem?_eq_none (by rw [pairCells_length]; omega)]
theorem setCells_row {g : Nat} {T : TypeId} : ∀ (vs : List Value) (o : Nat) (w : World) (cur : Array Value), Blk w g T cur → ∃ cur', Blk (w.setCells g o vs) g T cur' ∧ cur'.size = cur.size ∧ ∀ q, q < o → cur'[q]? = cur[q]?
  | [], o, w, cur, h => ⟨cur, h, rfl, fun _ _ => rfl⟩
  | v :: vs, o, w, cur, h => by
    obtain ⟨cur', h1, h2, h3⟩ := setCells_row vs (o + 1) _ _ (h.set o v)
    refine ⟨cur', h1, by simpa using h2, fun q hq => ?_⟩
    rw [h3 q (by omega), Array.getElem?_setIfInBounds, if_neg (by omega)]
theorem only_setCells {a : World} {g : Nat} : ∀ (vs : List Value) (o : Nat) (w : World), a.grownBy w (some g) → a.grownBy (w.setCells g o vs) (some g)
  | [], o, w, h => h
  | v :: vs, o, w, h => only_setCells vs (o + 1) _ (only_set h o v)
def RDel (g cap : Nat) (l : PL) (n : List UInt8) (w : World) (i j : Value) (wr : World) : Prop :=
  ∃ jj : Nat, 0 < jj ∧ jj ≤ l.length ∧ j = .int .i64 (jj : Nat) ∧ i = .int .i64 ((without (l.take jj) n).length : Nat) ∧ (without (l.take jj) n).length < jj ∧ RowAt wr g cap l (without (l.take jj) n) jj ∧ w.grownBy wr (some g)
set_option maxHeartbeats 8000000 in
theorem delete_any (g cap base p : Nat) (l : PL) (n : List UInt8) (w : World) (hrow : w.ownsRow base 83 2 (.slice (some ⟨g, 0, none⟩) l.length cap) l.length (pairCells l)) (hn : l.length ≤ 1048576) (hp : w.cell? ⟨p, 0, none⟩ = some (.string (bs n))) (hpg : p ≠ g) :
    Calls Tryz.prog 47 #[.slice (some ⟨g, 0, none⟩) l.length cap, .func (.func 48) #[] #[.pointer (some ⟨p, 0, none⟩)]] w fun e w' =>
      e = .returned (.slice (some ⟨g, 0, none⟩) (without l n).length cap) ∧ w'.ownsRow base 83 2 (.slice (some ⟨g, 0, none⟩) (without l n).length cap) (without l n).length (pairCells (without l n)) ∧ w.grownBy w' (some g) := by
  have ci := hid (idx2_any _ l n p w (psl_of_owns hrow) (by omega) hp)
  obtain ⟨_, hbg, hlc, hcm⟩ := row_of_owns hrow 0 (by omega)
  unfold idxU at ci
  by_cases hpos : posU l n < l.length
  · rw [if_pos hpos] at ci
    have hr0 := (row_of_owns hrow (posU l n) (by omega)).1
    have HW := hid (without_first l n hpos)
    rw [← HW.out] at hr0
    have HR0 := hid hr0
    have hwl : (without (l.take (posU l n + 1)) n).length = posU l n := by rw [HW.out, List.length_take]; omega
    have HWL := hid hwl
    generalize posU l n = k0 at *
    unfold maxLen at hcm
    clear hrow hr0 hwl
    go_enter Tryz.func47, Tryz.ntmps47
    go_wp2_with fail
    refine ci.out.mono ?_
    rintro e w1 ⟨rfl, hb1⟩
    have R1 := HR0.out.below hb1
    have O1 := only_below (only_refl w (some g)) hb1
    have hne : ((k0 : Int) == -1) = false := by rw [beq_eq_false_iff_ne]; omega
    go_wp2
    go_loopw [5, 6] (fun i j wr => RDel g cap l n w i j wr) (fun _ j _ => l.length - (intOf j).toNat)
    case atStart => exact ⟨k0 + 1, by omega, by omega, by go_num, by rw [HWL.out], by rw [HWL.out]; omega, R1, O1⟩
    case round =>
      obtain ⟨jj, h0, hj, rfl, rfl, hi, R, O⟩ := hrel
      clear R1 O1 ci HR0 HW HWL
      by_cases hlt : jj < l.length
      · obtain ⟨g0, g1⟩ := R.cells hlt
        have HWT := hid (without_take l n jj hlt)
        have hpw : wr.cell? ⟨p, 0, none⟩ = some (.string (bs n)) := (World.cell?_of_block (a := ⟨p, 0, none⟩) (O.block p (block_lt_of_cell hp) (by intro e; cases e; exact hpg rfl))).trans hp
        have HRR := hid R
        have HOO := hid O
        clear R O
        generalize hrr : without (l.take jj) n = r at *
        generalize hxx : l.getD jj ([], []) = x at *
        obtain ⟨x1, x2⟩ := x
        simp only at *
        clear hrr hxx
        obtain ⟨W6, hW6⟩ : ∃ W6, wr.alloc (.cells #[.string (bs x1), .string (bs x2)] 83) = W6 := ⟨_, rfl⟩
        have hA6 : Below wr.heap.size wr W6 := by rw [← hW6]; exact (Below.refl _ _).alloc (Nat.le_refl _) _
        have p0 : W6.cell? ⟨wr.heap.size, 0, none⟩ = some (.string (bs x1)) := by rw [← hW6]; simp
        have p1 : W6.cell? ⟨wr.heap.size, 1, none⟩ = some (.string (bs x2)) := by rw [← hW6]; simp
        have hlt6 : wr.heap.size < W6.heap.size := by rw [← hW6]; simp
        have R6 := hid (HRR.out.below hA6)
        have O6 := hid (only_below HOO.out hA6)
        have hpw6 := (hA6.cell (p := ⟨p, 0, none⟩) (block_lt_of_cell hpw)).trans hpw
        have cc := hid (clo2_any (x1, x2) n p W6 hpw6)
        simp only at cc
        have hgl : g < wr.heap.size := by obtain ⟨cur, h1, _⟩ := HRR.out; exact h1.lt
        cases hq : (x1 == n) with
        | true =>
          rw [hq] at cc HWT
          have HST := hid (show without (l.take (jj + 1)) n = r by rw [HWT.out]; simp)
          clear hq HWT
          go_wp2_with fail
          refine cc.out.mono ?_
          rintro e w7 ⟨rfl, hb7⟩
          have R7 := (R6.out.below hb7).next
          have O7 := only_below O6.out hb7
          go_wp2
          exact ⟨⟨jj + 1, by omega, by omega, by go_num, by rw [HST.out], by rw [HST.out]; omega, by rw [HST.out]; exact R7, O7⟩, by simp [intOf]; omega⟩
        | false =>
          rw [hq] at cc HWT
          have HST := hid (show without (l.take (jj + 1)) n = r ++ [(x1, x2)] by rw [HWT.out]; simp)
          clear hq HWT
          have hrl : r.length < l.length := by omega
          go_wp2_with fail
          refine cc.out.mono ?_
          rintro e w7 ⟨rfl, hb7⟩
          have p0 := (hb7.cell (p := ⟨wr.heap.size, 0, none⟩) hlt6).trans p0
          have p1 := (hb7.cell (p := ⟨wr.heap.size, 1, none⟩) hlt6).trans p1
          have R7 := hid (R6.out.below hb7)
          have O7 := hid (only_below O6.out hb7)
          obtain ⟨⟨u0, k0⟩, ⟨u1, k1⟩, f0, f1⟩ := R7.out.some r.length (by omega)
          have R8 := hid ((R7.out.store (x1, x2) hi (by omega)).next)
          have O8 := hid (only_set (only_set O7.out (r.length * 2) (.string (bs x1))) (r.length * 2 + 1) (.string (bs x2)))
          have hneg : wr.heap.size ≠ g := by omega
          go_wp2
          exact ⟨⟨jj + 1, by omega, by omega, by go_num, by rw [HST.out]; simp, by rw [HST.out, List.length_append]; simp only [List.length_cons, List.length_nil]; omega, by rw [HST.out]; exact R8.out, O8.out⟩, by simp [intOf]; omega⟩
      · obtain rfl : jj = l.length := by omega
        rw [List.take_length] at R hi ⊢
        have HO := hid O
        have HR := hid R
        generalize hrr : without l n = r at *
        have hsl := slice_from (P := Tryz.prog) 28 83 Tryz.underlying28 2 (by intro w; kernel_rfl) g 0 l.length cap r.length (by omega) (by omega) wr
        rw [Nat.zero_add] at hsl
        have hcl := fun ty => clear_pairs wr ty g (r.length * 2) (l.length - r.length) (cap - r.length) (by omega) (fun q hq => (HR.out.isSome _ (by omega)).1) (fun q hq => (HR.out.isSome _ (by omega)).2)
        have HOW := hid (show (wr.setCells g (r.length * 2) (List.replicate ((l.length - r.length) * 2) (.string ⟨#[]⟩))).ownsRow base 83 2 (.slice (some ⟨g, 0, none⟩) r.length cap) r.length (pairCells r) by
          obtain ⟨cur, h1, h2, h3, h4⟩ := HR.out
          obtain ⟨cur', k1, k2, k3⟩ := setCells_row (List.replicate ((l.length - r.length) * 2) (.string ⟨#[]⟩)) (r.length * 2) wr cur h1
          refine owns_of_row (T := 83) k1 (by rw [k2, h2]) (fun q u hq => ?_) hbg (by omega) (by unfold maxLen; omega)
          rw [k3 q (by have := (List.getElem?_eq_some_iff.1 hq).1; rw [pairCells_length] at this; exact this)]
          exact h3 q u hq)
        have HON := hid (only_setCells (List.replicate ((l.length - r.length) * 2) (.string ⟨#[]⟩)) (r.length * 2) wr HO.out)
        have hcc : (r.length : Int) ≤ (cap : Int) := by omega
        have hlt2 : ¬ ((l.length : Int) < (l.length : Int)) := by omega
        clear R O hlt hj
        go_wp2
        go_ret
        exact ⟨rfl, HOW.out, HON.out⟩
  · rw [if_neg hpos] at ci
    have HW := hid (without_none l n hpos)
    have HR := hid hrow
    clear hrow hpos
    go_enter Tryz.func47, Tryz.ntmps47
    go_wp2_with fail
    refine ci.out.mono ?_
    rintro e w1 ⟨rfl, hb1⟩
    go_wp2
    go_ret
    rw [HW.out]
    exact ⟨rfl, owns_below HR.out hb1, only_below (only_refl w (some g)) hb1⟩
theorem delete_v (base p : Nat) (v : Value) (l : PL) (n : List UInt8) (w : World) (hrow : w.ownsRow base 83 2 v l.length (pairCells l)) (hn : l.length ≤ 1048576) (hp : w.cell? ⟨p, 0, none⟩ = some (.string (bs n))) (hpg : v.ownBlock ≠ some p) :
    Calls Tryz.prog 47 #[v, .func (.func 48) #[] #[.pointer (some ⟨p, 0, none⟩)]] w fun e w' =>
      ∃ v', e = .returned v' ∧ w'.ownsRow base 83 2 v' (without l n).length (pairCells (without l n)) ∧ w.grownBy w' v.ownBlock ∧ v'.ownBlock = v.ownBlock := by
  have hrow' := hrow
  rcases hrow.2 with ⟨rfl, h0⟩ | ⟨g, cap, cur, rfl, _⟩
  · have hl : l = [] := List.length_eq_zero_iff.1 h0
    subst hl
    have ci := hid (idx2_any (.slice none 0 0) [] n p w (psl_of_owns hrow') (by simp) hp)
    have hix : idxU [] n = -1 := rfl
    rw [hix] at ci
    clear hrow hrow'
    go_enter Tryz.func47, Tryz.ntmps47
    go_wp2_with fail
    refine ci.out.mono ?_
    rintro e w1 ⟨rfl, hb1⟩
    go_wp2
    go_ret
    exact ⟨_, rfl, by simpa [without, pairCells] using World.ownsRow_nil _ _ _ _, only_below (only_refl w _) hb1, rfl⟩
  · have hpg2 : p ≠ g := fun e => hpg (by rw [e]; rfl)
    refine (delete_any g cap base p l n w hrow' hn hp hpg2).mono ?_
    rintro e w' ⟨rfl, h1, h2⟩
    exact ⟨_, rfl, h1, h2, rfl⟩
end Go.Proofs.YtbimlijhgeajjaaGreatDoor

namespace Go.Proofs.YtbimlijhgeajjaaGreatDoor
open Go Go.RowKit
set_option linter.unusedVariables false
set_option linter.unusedSectionVars false
set_option linter.unusedSimpArgs false
set_option maxRecDepth 100000
def SN (g : Nat) (rv : Value) (k : Nat) : Prop := k = g ∨ rv.ownBlock = some k
/-- the midst of a round -/
structure NSt (T : TypeId) (w : World) (rv ov : Value) (B g pb : Nat) (x1 x2 : List UInt8) (W : World) (rvk : Value) (r : PL) (o : Value) (out : PL) : Prop where
  bN : Blk W g T #[ov, rvk]
  bP : Blk W pb 83 #[.string (bs x1), .string (bs x2)]
  hR : W.ownsRow B 83 2 rvk r.length (pairCells r)
  hO : W.ownsRow w.heap.size 83 2 o out.length (pairCells out)
  rb : rvk.ownBlock = rv.ownBlock ∨ ∃ q, rvk.ownBlock = some q ∧ w.heap.size ≤ q
  ap : ∀ q, o.ownBlock = some q → rvk.ownBlock ≠ some q
  pR : rvk.ownBlock ≠ some pb
  pO : o.ownBlock ≠ some pb
  gR : rvk.ownBlock ≠ some g
  gw : g < w.heap.size
  gp : g ≠ pb
  K : KeptS (SN g rv) w W
theorem blk_grown {w w' : World} {b : Nat} {T : TypeId} {cs : Array Value} {r : Option Nat} (h : Blk w b T cs) (hg : w.grownBy w' r) (hr : r ≠ some b) : Blk w' b T cs := (hg.block b h.lt (fun e => hr e.symm)).trans h
section
variable {T : TypeId} {w : World} {rv ov : Value} {B g pb : Nat} {x1 x2 : List UInt8} {W : World} {rvk : Value} {r : PL} {o : Value} {out : PL}
theorem NSt.gO (h : NSt T w rv ov B g pb x1 x2 W rvk r o out) : o.ownBlock ≠ some g := fun e => by have := (h.hO.lt g e).1; have := h.gw; omega
theorem NSt.wW (h : NSt T w rv ov B g pb x1 x2 W rvk r o out) : w.heap.size ≤ W.heap.size := h.K.size
theorem NSt.below {W' : World} (h : NSt T w rv ov B g pb x1 x2 W rvk r o out) (hb : Below W.heap.size W W') : NSt T w rv ov B g pb x1 x2 W' rvk r o out :=
  ⟨h.bN.below hb, h.bP.below hb, owns_below h.hR hb, owns_below h.hO hb, h.rb, h.ap, h.pR, h.pO, h.gR, h.gw, h.gp, h.K.below hb⟩
theorem NSt.app {w8 : World} {ob : Obj} {v' : Value} {a1 : List UInt8} (h : NSt T w rv ov B g pb x1 x2 W rvk r o out) (hg : (W.alloc ob).grownBy w8 o.ownBlock)
    (hown : w8.ownsRow w.heap.size 83 2 v' (out.length + 1) (pairCells out ++ [.string (bs x1), .string (bs a1)])) (hat : v'.ownBlock = o.ownBlock ∨ v'.ownBlock = some (W.alloc ob).heap.size) :
    NSt T w rv ov B g pb x1 x2 w8 rvk r v' (out ++ [(x1, a1)]) := by
  have hA := h.below ((Below.refl W.heap.size W).alloc (Nat.le_refl _) ob)
  have hz : (W.alloc ob).heap.size = W.heap.size + 1 := by simp
  have hpl := h.bP.lt
  refine ⟨blk_grown hA.bN hg h.gO, blk_grown hA.bP hg h.pO, owns_only hA.hR hg (fun q hq e => h.ap q e hq), by rw [pairCells_snoc, List.length_append]; exact hown, h.rb, ?_, h.pR, ?_, h.gR, h.gw, h.gp, hA.K.only hg (fun q hq => .inr (h.hO.lt q hq).1)⟩
  · intro q hq e
    rcases hat with h1 | h1
    · exact h.ap q (h1 ▸ hq) e
    · rw [h1] at hq
      cases hq
      have := (h.hR.lt _ e).2
      omega
  · intro e
    rcases hat with h1 | h1
    · exact h.pO (h1 ▸ e)
    · rw [h1] at e
      cases e
      omega
theorem NSt.del {w9 : World} {rv1 : Value} {r1 : PL} (h : NSt T w rv ov B g pb x1 x2 W rvk r o out) (hg : W.grownBy w9 rvk.ownBlock) (hown : w9.ownsRow B 83 2 rv1 r1.length (pairCells r1)) (hb : rv1.ownBlock = rvk.ownBlock) :
    NSt T w rv ov B g pb x1 x2 (w9.setCell ⟨g, 1, none⟩ rv1) rv1 r1 o out ∧ Blk w9 g T #[ov, rvk] := by
  have hN := blk_grown h.bN hg h.gR
  have hK := h.K.only hg (fun q hq => by
    rcases h.rb with h1 | ⟨q', h1, h2⟩
    · exact .inl (.inr (h1 ▸ hq))
    · rw [h1] at hq
      cases hq
      exact .inr h2)
  refine ⟨⟨hN.set 1 rv1, (blk_grown h.bP hg h.pR).far (p := ⟨g, 1, none⟩) (Ne.symm h.gp) _, owns_setk hown _ _ _ (by rw [hb]; exact h.gR), owns_setk (owns_only h.hO hg (fun q hq => h.ap q hq)) _ _ _ h.gO, by rw [hb]; exact h.rb, by rw [hb]; exact h.ap, by rw [hb]; exact h.pR, h.pO, by rw [hb]; exact h.gR, h.gw, h.gp, hK.set _ _ (.inl (.inl rfl))⟩, hN⟩
theorem NSt.recd {w11 Wd : World} {rv2 : Value} {a2 : List UInt8} (h : NSt T w rv ov B g pb x1 x2 W rvk r o out) (hbd : Below W.heap.size W Wd) (hz : W.heap.size < Wd.heap.size) (hg : Wd.grownBy w11 rvk.ownBlock)
    (hown : w11.ownsRow B 83 2 rv2 (r.length + 1) (pairCells r ++ [.string (bs x1), .string (bs a2)])) (hat : rv2.ownBlock = rvk.ownBlock ∨ rv2.ownBlock = some Wd.heap.size) :
    NSt T w rv ov B g pb x1 x2 (w11.setCell ⟨g, 1, none⟩ rv2) rv2 (r ++ [(x1, a2)]) o out ∧ Blk w11 g T #[ov, rvk] := by
  have hA := h.below hbd
  have hpl := h.bP.lt
  have hgl := h.bN.lt
  have hwW := h.wW
  have hN := blk_grown hA.bN hg h.gR
  have hK := hA.K.only hg (fun q hq => by
    rcases h.rb with h1 | ⟨q', h1, h2⟩
    · exact .inl (.inr (h1 ▸ hq))
    · rw [h1] at hq
      cases hq
      exact .inr h2)
  have hg2 : rv2.ownBlock ≠ some g := fun e => by
    rcases hat with h1 | h1
    · exact h.gR (h1 ▸ e)
    · rw [h1] at e
      cases e
      omega
  refine ⟨⟨hN.set 1 rv2, (blk_grown hA.bP hg h.pR).far (p := ⟨g, 1, none⟩) (Ne.symm h.gp) _, owns_setk (by rw [pairCells_snoc, List.length_append]; exact hown) _ _ _ hg2, owns_setk (owns_only hA.hO hg (fun q hq => h.ap q hq)) _ _ _ h.gO, ?_, ?_, ?_, h.pO, hg2, h.gw, h.gp, hK.set _ _ (.inl (.inl rfl))⟩, hN⟩
  · rcases hat with h1 | h1
    · rw [h1]; exact h.rb
    · exact .inr ⟨_, h1, by omega⟩
  · intro q hq e
    rcases hat with h1 | h1
    · exact h.ap q hq (h1 ▸ e)
    · rw [h1] at e
      cases e
      have := (h.hO.lt _ hq).2
      omega
  · intro e
    rcases hat with h1 | h1
    · exact h.pR (h1 ▸ e)
    · rw [h1] at e
      cases e
      omega
/-- what is recorded is laid anew -/
theorem NSt.newrec {W1 : World} {rv2 : Value} {r2 : PL} (h : NSt T w rv ov B g pb x1 x2 W rvk r o out) (hb : Below W.heap.size W W1) (hown : W1.ownsRow W.heap.size 83 2 rv2 r2.length (pairCells r2)) (hB : B ≤ w.heap.size) (hne : 0 < r2.length) :
    NSt T w rv ov B g pb x1 x2 (W1.setCell ⟨g, 1, none⟩ rv2) rv2 r2 o out ∧ Blk W1 g T #[ov, rvk] := by
  have hA := h.below hb
  have hgl := h.bN.lt
  have hpl := h.bP.lt
  have hwW := h.wW
  have hg2 : rv2.ownBlock ≠ some g := fun e => by have := (hown.lt g e).1; omega
  refine ⟨⟨hA.bN.set 1 rv2, hA.bP.far (p := ⟨g, 1, none⟩) (Ne.symm h.gp) _, ?_, owns_setk hA.hO _ _ _ h.gO, ?_, ?_, ?_, h.pO, hg2, h.gw, h.gp, hA.K.set _ _ (.inl (.inl rfl))⟩, hA.bN⟩
  · have := owns_setk hown g 1 rv2 hg2
    rcases this.2 with h0 | ⟨q, cap, cur, h1, h2, h3⟩
    · exact ⟨this.1, .inl h0⟩
    · exact ⟨this.1, .inr ⟨q, cap, cur, h1, by omega, h3⟩⟩
  · cases hq : rv2.ownBlock with
    | none =>
      rcases hown.2 with ⟨_, h0⟩ | ⟨q, cap, cur, rfl, _⟩
      · omega
      · simp [Value.ownBlock] at hq
    | some q => exact .inr ⟨q, rfl, by have := (hown.lt q hq).1; omega⟩
  · intro q hq e
    have h1 := (hown.lt q e).1
    have h2 := (h.hO.lt q hq).2
    omega
  · intro e
    have h1 := (hown.lt pb e).1
    omega
end
end Go.Proofs.YtbimlijhgeajjaaGreatDoor
