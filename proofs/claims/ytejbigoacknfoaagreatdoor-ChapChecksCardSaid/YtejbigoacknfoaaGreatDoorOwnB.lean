/- Rows of bytes of the call's own, that a string's conversion may have laid. -/
import Derived.Test.YtejbigoacknfoaaGreatDoorBase
import Derived.Laws.IdiomCopy
set_option linter.unusedSectionVars false
set_option linter.unusedSimpArgs false
set_option linter.unusedVariables false
namespace Go.Proofs.YtejbigoacknfoaaGreatDoor
open Go Go.RowKit
set_option linter.unusedVariables false
set_option linter.unusedSectionVars false
set_option linter.unusedSimpArgs false
/-- v reads as the bytes l, in a row of the call's own (base on) of which no cell is marked -/
def OwnB (w : World) (base : Nat) (e : TypeId) (v : Value) (l : List UInt8) : Prop :=
  (v = .slice none 0 0 ∧ l = []) ∨
  ∃ g cap cur fr, v = .slice (some ⟨g, 0, none⟩) l.length cap ∧ base ≤ g ∧ w.heap[g]? = some (.cells cur e fr) ∧ (∀ k, k < cap → fr.1 ≤ k → fr.2 ≤ k) ∧ l.length ≤ cap ∧ cap ≤ maxLen ∧ cur.size = cap ∧ cur.toList.take l.length = (bcells l).toList
theorem ownB_nil (w : World) (base : Nat) (e : TypeId) : OwnB w base e (.slice none 0 0) [] := .inl ⟨rfl, rfl⟩
theorem OwnB.lt {w : World} {base : Nat} {e : TypeId} {v : Value} {l : List UInt8} (h : OwnB w base e v l) : ∀ k, v.ownBlock = some k → base ≤ k ∧ k < w.heap.size := by
  intro k hk
  rcases h with ⟨rfl, _⟩ | ⟨g, cap, cur, fr, rfl, hb, hg, _⟩
  · simp [Value.ownBlock] at hk
  · simp [Value.ownBlock] at hk
    subst hk
    exact ⟨hb, (Array.getElem?_eq_some_iff.1 hg).1⟩
theorem OwnB.kept {w w' : World} {base : Nat} {e : TypeId} {v : Value} {l : List UInt8} {row : Option Nat} (h : OwnB w base e v l) (hg : w.grownBy w' row) (hne : v.ownBlock = none ∨ v.ownBlock ≠ row) : OwnB w' base e v l := by
  rcases h with hn | ⟨g, cap, cur, fr, rfl, hb, hgg, rest⟩
  · exact .inl hn
  · refine .inr ⟨g, cap, cur, fr, rfl, hb, ?_, rest⟩
    rw [hg.block g (Array.getElem?_eq_some_iff.1 hgg).1 (by simpa [Value.ownBlock] using hne)]
    exact hgg
theorem OwnB.below {w w' : World} {base : Nat} {e : TypeId} {v : Value} {l : List UInt8} (h : OwnB w base e v l) (hb : Below w.heap.size w w') : OwnB w' base e v l :=
  h.kept (row := none) ⟨hb.os, hb.tape, hb.output, hb.size, fun k hk _ => hb.block k hk⟩ (by cases hv : v.ownBlock <;> simp)
theorem OwnB.alloc {w : World} {base : Nat} {e : TypeId} {v : Value} {l : List UInt8} (h : OwnB w base e v l) (o : Obj) : OwnB (w.alloc o) base e v l :=
  h.kept (World.grownBy_alloc w o none) (by cases hv : v.ownBlock <;> simp)
theorem OwnB.form {w : World} {base : Nat} {e : TypeId} {v : Value} {l : List UInt8} (h : OwnB w base e v l) : ∃ a cap, v = .slice a l.length cap := by
  rcases h with ⟨rfl, rfl⟩ | ⟨g, cap, cur, fr, rfl, _⟩
  · exact ⟨none, 0, rfl⟩
  · exact ⟨_, _, rfl⟩
theorem OwnB.cell {w : World} {base g off n cap : Nat} {e : TypeId} {l : List UInt8} (h : OwnB w base e (.slice (some ⟨g, off, none⟩) n cap) l) : off = 0 ∧ n = l.length ∧ ∀ j (c : UInt8), l[j]? = some c → w.cell? ⟨g, j, none⟩ = some (.int .u8 (c.toNat : Int)) := by
  rcases h with ⟨h, rfl⟩ | ⟨g', cap', cur, fr, h, hb, hg, _, _, _, _, ht⟩
  · cases h
  · cases h
    refine ⟨rfl, rfl, fun j c hj => ?_⟩
    obtain ⟨h1, h2⟩ := List.getElem?_eq_some_iff.1 hj
    rw [cell_of_row w g j cur e fr hg]
    have h3 := bcells_get l j h1
    rw [← Array.getElem?_toList, ← ht, List.getElem?_take, if_pos h1, Array.getElem?_toList, h2] at h3
    exact h3
theorem OwnB.sl {w : World} {base : Nat} {e : TypeId} {v : Value} {l : List UInt8} (h : OwnB w base e v l) : Sl w v 1 l.length (bcells l).toList := by
  rcases h with ⟨rfl, rfl⟩ | ⟨g, cap, cur, fr, rfl, hb, hg, _, _, _, _, ht⟩
  · exact ⟨none, 0, rfl, by simp [bcells], .inl rfl⟩
  · refine ⟨_, cap, rfl, by simp [bcells], .inr ⟨g, 0, rfl, fun j u hu => ?_⟩⟩
    rw [Nat.zero_add, cell_of_row w g j cur e fr hg]
    rw [← ht, List.getElem?_take] at hu
    split at hu
    · simpa using hu
    · cases hu
theorem OwnB.len {w : World} {base n m c : Nat} {a : Option Addr} {e : TypeId} {l : List UInt8} (h : OwnB w base e (.slice a n c) l) (hm : m = n) : OwnB w base e (.slice a m c) l := by rw [hm]; exact h
theorem setCells_row (g : Nat) (t : TypeId) (fr : Nat × Nat) : ∀ (vs : List Value) (o : Nat) (cur : Array Value) (w : World), w.heap[g]? = some (.cells cur t fr) → o + vs.length ≤ cur.size →
    w.setCells g o vs = w.setRow g (cur.toList.take o ++ vs ++ cur.toList.drop (o + vs.length)).toArray
  | [], o, cur, w, hg, hl => by
    simp only [World.setCells, List.append_nil, List.length_nil, Nat.add_zero, List.take_append_drop, Array.toArray_toList]
    exact (setRow_self w g cur t fr hg).symm
  | v :: r, o, cur, w, hg, hl => by
    rw [World.setCells, setCell_eq_setRow w g o cur t fr v hg, setCells_row g t fr r (o + 1) (cur.setIfInBounds o v) _ (setRow_heap w g cur _ t fr hg) (by simp at hl ⊢; omega), setRow_setRow]
    congr 2
    have e := list_seg_step cur.toList o v r (by simp at hl ⊢; omega)
    simpa [Array.toList_setIfInBounds, Nat.add_assoc] using e
theorem bcells_append (a b : List UInt8) : (bcells (a ++ b)).toList = (bcells a).toList ++ (bcells b).toList := by simp [bcells]
section
variable {P : Program}
theorem run_append_ownB (w : World) (base : Nat) (t ty e : TypeId) (ht : P.underlying t = some (.slice e)) (hi : (P.info? e).map (fun i => (i.zero, i.size, i.bytes)) = some (some (.int .u8 0), 1, 1))
    (v : Value) (l : List UInt8) (hown : OwnB w base e v l) (a : Addr) (c : Nat) (l2 : List UInt8) (hnews : ∀ j (x : UInt8), l2[j]? = some x → w.cell? (a.add j) = some (.int .u8 (x.toNat : Int)))
    (hb : l.length + l2.length ≤ 140737488355328) (hbase : base ≤ w.heap.size) :
    ∃ v' w', (Builtin.append_ #[t, t] ty #[v, .slice (some a) l2.length c]).run P w = .ok v' w' ∧ OwnB w' base e v' (l ++ l2) ∧ w.grownBy w' v.ownBlock := by
  obtain ⟨i, hi1, hi2, hi3, hi4⟩ := info_parts hi
  have hn2 : ∀ j u, (bcells l2).toList[j]? = some u → w.cell? (a.add j) = some u := by
    intro j u hu
    have hj : j < l2.length := by
      have := (List.getElem?_eq_some_iff.1 hu).1
      simpa [bcells] using this
    rw [hnews j l2[j] (List.getElem?_eq_getElem hj), ← hu, Array.getElem?_toList, bcells_get l2 j hj]
  have hone : ∀ u ∈ (bcells l2).toList, u.oneCell' = true := by
    intro u hu
    simp [bcells] at hu
    obtain ⟨b, _, rfl⟩ := hu
    rfl
  have hl2 : (bcells l2).toList.length = l2.length := by simp [bcells]
  rcases hown with ⟨rfl, rfl⟩ | ⟨g, cap, cur, fr, rfl, hbg, hg, hfr, hnc, hcm, hcs, htake⟩
  · obtain ⟨v', w', hr, hown, hgr, _⟩ := run_append_own (P := P) w base t ty e i (.int .u8 0) 1 1 ht hi1 hi2 hi3 hi4 rfl (by decide) (.slice none 0 0) 0 [] (World.ownsRow_nil _ _ _ _) a l2.length c (bcells l2).toList (by rw [hl2]; omega) hn2 hone (by unfold maxLen; simp at hb; omega) (by simp at hb; omega) hbase
    refine ⟨v', w', hr, ?_, hgr⟩
    rcases hown.2 with ⟨rfl, h0⟩ | ⟨g, cap, cur, rfl, hbg, hg, hnc, hcm, hcs, htake⟩
    · refine .inl ⟨rfl, ?_⟩
      have : l2.length = 0 := by omega
      simpa using this
    · refine .inr ⟨g, cap, cur, (0, 0), by simp, hbg, hg, fun k _ _ => Nat.zero_le _, by simpa using hnc, hcm, by omega, ?_⟩
      simpa using htake
  · by_cases hroom : l.length + l2.length ≤ cap
    · have hst := run_storeCells_cells (P := P) g l.length (bcells l2).toList 0 w (fun j hj => by
        rw [hl2] at hj
        rw [cell_of_row w g _ cur e fr hg, Array.getElem?_eq_getElem (by omega)]; rfl) (fun j hj => by
        rw [hl2] at hj
        unfold World.frozen?
        rw [hg]
        simp only [Bool.and_eq_false_iff, decide_eq_false_iff_not]
        have := hfr (l.length + 0 + j) (by omega)
        omega) hone
      rw [Nat.add_zero, setCells_row g e fr _ _ cur w hg (by rw [hl2]; omega)] at hst
      obtain ⟨nc, hnc'⟩ : ∃ nc, nc = (cur.toList.take l.length ++ (bcells l2).toList ++ cur.toList.drop (l.length + (bcells l2).toList.length)).toArray := ⟨_, rfl⟩
      rw [← hnc'] at hst
      have hf := run_firstCells_some (P := P) w 1 l2.length a l2.length c (bcells l2).toList (by rw [hl2]; omega) hn2
      refine ⟨.slice (some ⟨g, 0, none⟩) (l.length + l2.length) cap, w.setRow g nc, ?_, .inr ⟨g, cap, nc, fr, by simp, hbg, setRow_heap w g cur _ e fr hg, hfr, by simpa using hroom, hcm, ?_, ?_⟩, ⟨rfl, rfl, rfl, by simp, fun k _ hk => setRow_other w g k _ (fun e => hk (by simp [Value.ownBlock, e]))⟩⟩
      · simp [Builtin.append_, run_underlying ht, sizeOf, typeInfo, hi1, hi3, Builtin.lenOf, hroom, hf, Addr.add_lit, hst]
      · rw [hnc']
        simp only [List.size_toArray, List.length_append, List.length_take, List.length_drop, Array.length_toList, hl2]
        omega
      · rw [hnc', htake, List.length_append, bcells_append]
        have : l.length + l2.length = ((bcells l).toList ++ (bcells l2).toList).length := by simp [bcells]
        rw [this]
        exact List.take_left
    · have hcell : ∀ j u, (bcells l).toList[j]? = some u → w.cell? ((⟨g, 0, none⟩ : Addr).add j) = some u := by
        intro j u hu
        have hj : j < l.length := by
          have := (List.getElem?_eq_some_iff.1 hu).1
          simpa [bcells] using this
        rw [show (⟨g, 0, none⟩ : Addr).add j = ⟨g, j, none⟩ by unfold Addr.add; split <;> simp_all, cell_of_row w g j cur e fr hg]
        rw [← htake, List.getElem?_take, if_pos hj, Array.getElem?_toList] at hu
        exact hu
      have hr := run_append_grow (P := P) w t ty e i (.int .u8 0) ht hi1 hi2 ⟨g, 0, none⟩ l.length cap (bcells l).toList (by simp [bcells, hi3]) hcell a l2.length c (bcells l2).toList (by rw [hl2, hi3]; omega) hn2 (by omega) (by omega) (growslice_fits (by omega) (by rw [hi4]; omega))
      have hge := grownCap_ge w (l.length + l2.length) cap e
      have hcm' : grownCap w (l.length + l2.length) cap e ≤ maxLen := grownCap_le_maxLen w _ cap e (by unfold maxLen; omega)
      refine ⟨_, _, hr, .inr ⟨w.heap.size, _, _, (0, 0), by simp, hbase, heap_alloc_new w.drew _, fun k _ _ => Nat.zero_le _, by simpa using hge, hcm', ?_, ?_⟩, ⟨rfl, rfl, rfl, by simp, fun k hk _ => Go.heap_alloc_old w.drew _ hk⟩⟩
      · simp only [Array.size_append, List.size_toArray, size_zeroCells, hl2]
        simp [bcells, Value.cells]; omega
      · simp only [Array.toList_append, List.append_assoc, List.length_append]
        rw [bcells_append, ← List.append_assoc]
        have : l.length + l2.length = ((bcells l).toList ++ (bcells l2).toList).length := by simp [bcells]
        rw [this]
        exact List.take_left
theorem list_append_ownB {ops : Array Oper} {rest : List Oper} {o : Oper} {a : Act} {w : World} {Q : Exit → Act → World → Prop}
    (hgd : o.guard = none) (s x : Operand) (t : TypeId) (ho : o.op = .call { callee := .builtin .append, args := #[s, x], argTypes := #[t, t] })
    (base : Nat) (e : TypeId) (ht : P.underlying t = some (.slice e)) (hi : (P.info? e).map (fun i => (i.zero, i.size, i.bytes)) = some (some (.int .u8 0), 1, 1))
    (v : Value) (l : List UInt8) (hs : a.eval s = v) (hown : OwnB w base e v l)
    (ad : Addr) (m c : Nat) (l2 : List UInt8) (hx : a.eval x = .slice (some ad) m c) (hm : m = l2.length) (hnews : ∀ j (y : UInt8), l2[j]? = some y → w.cell? (ad.add j) = some (.int .u8 (y.toNat : Int)))
    (hb : l.length + l2.length ≤ 140737488355328) (hbase : base ≤ w.heap.size)
    (h : ∀ v' w', OwnB w' base e v' (l ++ l2) → w.grownBy w' v.ownBlock → wpList P ops Q rest (a.put o.dst v') w') : wpList P ops Q (o :: rest) a w := by
  subst hm
  obtain ⟨v', w', hr, h2, h3⟩ := run_append_ownB (P := P) w base t o.type e ht hi v l hown ad c l2 hnews hb hbase
  refine wpList_plain hgd fun K hK => ?_
  unfold Oper.wp execOp
  simp only [ho, resolve, invoke, builtin, Sem.run_bind, Sem.run_pure, Result.andThen_ok, List.map_toArray, List.map_cons, List.map_nil, hs, hx, hr]
  exact hK _ _ (h v' w' h2 h3)
theorem below_appendB {B : Nat} {a w w' : World} {e : TypeId} {v : Value} {l : List UInt8} (h : Below B a w) (hown : OwnB w B e v l) (hg : w.grownBy w' v.ownBlock) (hB : B ≤ w.heap.size) : Below B a w' :=
  h.grown hg hB (fun k hk => (hown.lt k hk).1)
theorem conv_own (src dst e : TypeId) (hs : P.underlying src = some .string) (hd : P.underlying dst = some (.slice e)) (he : P.underlying e = some (.int .u8)) (l : List UInt8) (hl : l.length ≤ 140737488355328) (w : World) :
    ∃ c w', (convert src dst (.string (bs l))).run P w = .ok (.slice (some ⟨w.heap.size, 0, none⟩) l.length c) w' ∧ OwnB w' w.heap.size e (.slice (some ⟨w.heap.size, 0, none⟩) l.length c) l ∧ Below w.heap.size w w' ∧ w'.heap.size = w.heap.size + 1 := by
  have hsz := Lib.bytesWorld_size w e (bs l)
  have hge := grownCap_ge w (bs l).size 0 e
  have hcm := grownCap_le_maxLen w (bs l).size 0 e (by rw [bs_size]; unfold maxLen; omega)
  have hcs : (Lib.bytesCells w e (bs l)).size = grownCap w (bs l).size 0 e := by
    simp only [Lib.bytesCells, Array.size_append, Array.size_map, Array.size_replicate]
    have : (bs l).data.size = (bs l).size := rfl
    omega
  rw [bs_size] at hge
  refine ⟨_, _, by rw [Lib.run_convert_string_bytes w src dst e (bs l) hs hd he, bs_size], .inr ⟨w.heap.size, _, _, _, rfl, Nat.le_refl _, Lib.bytesWorld_at_new w e (bs l), fun k hk h1 => ?_, by rw [bs_size] at *; exact hge, by rw [bs_size] at hcm; exact hcm, by rw [hcs, bs_size], ?_⟩, ⟨rfl, rfl, rfl, by omega, fun k hk => Lib.bytesWorld_at_old w e (bs l) k hk⟩, hsz⟩
  · rw [hcs, bs_size] at h1
    omega
  · simp [Lib.bytesCells, bs, bcells]
theorem conv_back (src dst e : TypeId) (hs : P.underlying src = some (.slice e)) (he : P.underlying e = some (.int .u8)) (hd : P.underlying dst = some .string) (w : World) (base : Nat) (v : Value) (l : List UInt8) (h : OwnB w base e v l) (hne : l ≠ []) :
    (convert src dst v).run P w = .ok (.string (bs l)) w := by
  rcases h with ⟨_, h⟩ | ⟨g, cap, cur, fr, rfl, hb, hg, hfr, hnc, hcm, hcs, ht⟩
  · exact absurd h hne
  · have := run_convert_bytes_arg (P := P) w src e hs he g 0 l.length cap (l.map fun b => (b.toNat : Int)) (by simp) (fun i hi => by
      have h3 := bcells_get l i hi
      rw [← Array.getElem?_toList, ← ht, List.getElem?_take, if_pos hi, Array.getElem?_toList] at h3
      rw [Nat.zero_add, cell_of_row _ _ _ _ _ _ hg, h3]
      simp [List.getD, hi]) dst hd
    rw [this]
    have hm : ∀ l : List UInt8, List.map ((fun n : Int => UInt8.ofNat n.toNat) ∘ fun b : UInt8 => (b.toNat : Int)) l = l := by
      intro l; induction l with
      | nil => rfl
      | cons a l ih => simp [ih]
    simp [strOfNums, bs, hm]
end
end Go.Proofs.YtejbigoacknfoaaGreatDoor
