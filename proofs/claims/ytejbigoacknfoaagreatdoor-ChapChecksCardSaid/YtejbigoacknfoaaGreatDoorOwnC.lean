/- Rows of bytes of the call's own: more of append, and stores. -/
import Derived.Test.YtejbigoacknfoaaGreatDoorProg
import Derived.Test.YtejbigoacknfoaaGreatDoorOwnB
import Derived.Lib.SlBytesConst
set_option linter.unusedSectionVars false
set_option linter.unusedSimpArgs false
set_option linter.unusedVariables false
namespace Go.Proofs.YtejbigoacknfoaaGreatDoor
open Go Go.RowKit
set_option linter.unusedVariables false
set_option linter.unusedSectionVars false
set_option linter.unusedSimpArgs false
set_option maxRecDepth 100000
theorem infoB8 : (Tryz.prog.info? 5).map (fun i => (i.zero, i.size, i.bytes)) = some (some (.int .u8 0), 1, 1) := by kernel_rfl
theorem ownB_new (w : World) (base : Nat) (e : TypeId) (l : List UInt8) (n : Nat) (hn : n = l.length) (hb : base ≤ w.heap.size) (hl : l.length ≤ 140737488355328) : OwnB (w.alloc (.cells (bcells l) e)) base e (.slice (some ⟨w.heap.size, 0, none⟩) n n) l := by
  subst hn
  exact .inr ⟨w.heap.size, l.length, bcells l, (0, 0), rfl, hb, heap_alloc_new _ _, fun k _ _ => Nat.zero_le _, Nat.le_refl _, by unfold maxLen; omega, by simp [bcells], by rw [List.take_of_length_le]; simp [bcells]⟩
theorem ownB_mark (w : World) (base : Nat) (e : TypeId) (l : List UInt8) (n : Nat) (fr : Nat × Nat) (hfr : fr.1 = l.length) (hn : n = l.length) (hb : base ≤ w.heap.size) (hl : l.length ≤ 140737488355328) : OwnB (w.alloc (.cells (bcells l) e fr)) base e (.slice (some ⟨w.heap.size, 0, none⟩) n n) l := by
  subst hn
  exact .inr ⟨w.heap.size, l.length, bcells l, fr, rfl, hb, by show (w.heap.push _)[w.heap.size]? = _; simp, fun k h1 h2 => by omega, Nat.le_refl _, by unfold maxLen; omega, by simp [bcells], by rw [List.take_of_length_le]; simp [bcells]⟩
theorem cells_new1 (w : World) (x : UInt8) (a : Int) (e : TypeId) (ha : a = (x.toNat : Int)) : ∀ j (z : UInt8), [x][j]? = some z → (w.alloc (.cells #[.int .u8 a] e)).cell? ((⟨w.heap.size, 0, none⟩ : Addr).add j) = some (.int .u8 (z.toNat : Int)) := by
  subst ha
  intro j z hz
  have hj : j < 1 := (List.getElem?_eq_some_iff.1 hz).1
  rw [show (⟨w.heap.size, 0, none⟩ : Addr).add j = ⟨w.heap.size, j, none⟩ by unfold Addr.add; split <;> simp_all, cell_of_row _ _ _ _ _ _ (heap_alloc_new _ _)]
  match j, hj with
  | 0, _ => simp at hz; simp [hz]
theorem cells_new2 (w : World) (x y : UInt8) (a b : Int) (e : TypeId) (ha : a = (x.toNat : Int)) (hb : b = (y.toNat : Int)) : ∀ j (z : UInt8), [x, y][j]? = some z → (w.alloc (.cells #[.int .u8 a, .int .u8 b] e)).cell? ((⟨w.heap.size, 0, none⟩ : Addr).add j) = some (.int .u8 (z.toNat : Int)) := by
  subst ha hb
  intro j z hz
  have hj : j < 2 := (List.getElem?_eq_some_iff.1 hz).1
  rw [show (⟨w.heap.size, 0, none⟩ : Addr).add j = ⟨w.heap.size, j, none⟩ by unfold Addr.add; split <;> simp_all, cell_of_row _ _ _ _ _ _ (heap_alloc_new _ _)]
  match j, hj with
  | 0, _ => simp at hz; simp [hz]
  | 1, _ => simp at hz; simp [hz]
theorem cells_new3 (w : World) (x y u : UInt8) (m : Nat) (a b c : Int) (e : TypeId) (ha : a = (x.toNat : Int)) (hb : b = (y.toNat : Int)) (hc : c = (u.toNat : Int)) : ∀ j (z : UInt8), ([x, y, u].take m)[j]? = some z → (w.alloc (.cells #[.int .u8 a, .int .u8 b, .int .u8 c] e)).cell? ((⟨w.heap.size, 0, none⟩ : Addr).add j) = some (.int .u8 (z.toNat : Int)) := by
  subst ha hb hc
  intro j z hz
  rw [List.getElem?_take] at hz
  split at hz
  · have hj : j < 3 := (List.getElem?_eq_some_iff.1 hz).1
    rw [show (⟨w.heap.size, 0, none⟩ : Addr).add j = ⟨w.heap.size, j, none⟩ by unfold Addr.add; split <;> simp_all, cell_of_row _ _ _ _ _ _ (heap_alloc_new _ _)]
    match j, hj with
    | 0, _ => simp at hz; simp [hz]
    | 1, _ => simp at hz; simp [hz]
    | 2, _ => simp at hz; simp [hz]
  · cases hz
section
variable {P : Program}
theorem step_append_ownB {ops : Array Oper} {o : Oper} {a : Act} {w : World} {K : Act → World → Prop} {Q : Exit → Act → World → Prop} {E : Prop}
    (hgd : o.guard = none) (s x : Operand) (t : TypeId) (ho : o.op = .call { callee := .builtin .append, args := #[s, x], argTypes := #[t, t] })
    (base : Nat) (e : TypeId) (ht : P.underlying t = some (.slice e)) (hi : (P.info? e).map (fun i => (i.zero, i.size, i.bytes)) = some (some (.int .u8 0), 1, 1))
    (v : Value) (l : List UInt8) (hs : a.eval s = v) (hown : OwnB w base e v l)
    (ad : Addr) (m c : Nat) (l2 : List UInt8) (hx : a.eval x = .slice (some ad) m c) (hm : m = l2.length) (hnews : ∀ j (y : UInt8), l2[j]? = some y → w.cell? (ad.add j) = some (.int .u8 (y.toNat : Int)))
    (hb : l.length + l2.length ≤ 140737488355328) (hbase : base ≤ w.heap.size)
    (h : ∀ v' w', OwnB w' base e v' (l ++ l2) → w.grownBy w' v.ownBlock → K (a.put o.dst v') w') :
    if Region.wanted o (yielded ops a.tmps) = true then Oper.wp P o a w K Q else E := by
  subst hm
  obtain ⟨v', w', hr, h2, h3⟩ := run_append_ownB (P := P) w base t o.type e ht hi v l hown ad c l2 hnews hb hbase
  rw [if_pos (by simp [Region.wanted, hgd])]
  unfold Oper.wp execOp
  simp only [ho, resolve, invoke, builtin, Sem.run_bind, Sem.run_pure, Result.andThen_ok, List.map_toArray, List.map_cons, List.map_nil, hs, hx, hr]
  exact h v' w' h2 h3
end
theorem conv_back' {P : Program} (src dst e : TypeId) (hs : P.underlying src = some (.slice e)) (he : P.underlying e = some (.int .u8)) (hd : P.underlying dst = some .string) (w : World) (base : Nat) (v : Value) (l : List UInt8) (h : OwnB w base e v l) :
    (convert src dst v).run P w = .ok (.string (bs l)) w := by
  by_cases hne : l = []
  · subst hne
    rcases h with ⟨rfl, _⟩ | ⟨g, cap, cur, fr, rfl, hb, hg, hfr, hnc, hcm, hcs, ht⟩
    · rw [run_convert_bytes_nil w src e hs he 0 0 dst hd]; rfl
    · exact (run_convert_bytes_arg (P := P) w src e hs he g 0 0 cap [] rfl (fun i hi => absurd hi (by omega)) dst hd).trans rfl
  · exact conv_back src dst e hs he hd w base v l h hne
/-- the last byte is another one -/
theorem OwnB.last {w : World} {base : Nat} {e : TypeId} {v : Value} {l : List UInt8} {x y : UInt8} (h : OwnB w base e v (l ++ [x])) :
    ∃ g cap, v = .slice (some ⟨g, 0, none⟩) (l.length + 1) cap ∧ l.length + 1 ≤ cap ∧ base ≤ g ∧ g < w.heap.size ∧ w.cell? ⟨g, l.length, none⟩ = some (.int .u8 (x.toNat : Int)) ∧ w.frozen? ⟨g, l.length, none⟩ = false ∧
      OwnB (w.setCell ⟨g, l.length, none⟩ (.int .u8 (y.toNat : Int))) base e v (l ++ [y]) := by
  rcases h with ⟨_, h⟩ | ⟨g, cap, cur, fr, rfl, hb, hg, hfr, hnc, hcm, hcs, ht⟩
  · simp at h
  · have hlc : l.length < cur.size := by rw [hcs]; simp at hnc; omega
    have hc : cur[l.length]? = some (.int .u8 (x.toNat : Int)) := by
      have h3 := bcells_get (l ++ [x]) l.length (by simp)
      rw [← Array.getElem?_toList, ← ht, List.getElem?_take, if_pos (by simp), Array.getElem?_toList] at h3
      simpa using h3
    refine ⟨g, cap, by simp, by simpa using hnc, hb, (Array.getElem?_eq_some_iff.1 hg).1, by rw [cell_of_row w g _ cur e fr hg, hc], ?_, ?_⟩
    · unfold World.frozen?
      rw [hg]
      simp only [Bool.and_eq_false_iff, decide_eq_false_iff_not]
      have := hfr l.length (by simp at hnc; omega)
      omega
    · refine .inr ⟨g, cap, cur.setIfInBounds l.length (.int .u8 (y.toNat : Int)), fr, by simp, hb, ?_, hfr, by simpa using hnc, hcm, by simpa using hcs, ?_⟩
      · rw [setCell_eq_setRow w g l.length cur e fr _ hg]
        exact setRow_heap w g cur _ e fr hg
      · have e1 : (l ++ [x]).length = l.length + 1 := by simp
        have e2 : (l ++ [y]).length = l.length + 1 := by simp
        rw [e1] at ht
        rw [e2, Array.toList_setIfInBounds, List.take_set, ht, bcells_append, bcells_append]
        rw [List.set_append_right _ _ (by simp [bcells])]
        simp [bcells]
end Go.Proofs.YtejbigoacknfoaaGreatDoor
