/- What stands while an iterator steps: for invariants of a range over strings.SplitSeq. -/
import Derived.Test.YtfeenkofnbefaaaGreatDoorRange
import Derived.Test.YtfeenkofnbefaaaGreatDoorSplitSeq
import Derived.Test.YtfeenkofnbefaaaGreatDoorParsePure
import Derived.Test.YtfeenkofnbefaaaGreatDoorShelfL
set_option linter.unusedSectionVars false
set_option linter.unusedSimpArgs false
set_option linter.unusedVariables false
namespace Go.Proofs.YtfeenkofnbefaaaGreatDoor
open Go Go.RowKit
set_option linter.unusedVariables false
theorem below_put {B : Nat} {a W : World} (h : Below B a W) {l : Nat} (hl : B ≤ l) (o : Obj) : Below B a (W.putObj l o) :=
  h.trans ⟨rfl, rfl, rfl, by simp, fun k hk => World.putObj_heap_other (by omega)⟩
theorem below_set {B : Nat} {a W : World} (h : Below B a W) {p : Addr} (hp : B ≤ p.block) (u : Value) : Below B a (W.setCell p u) :=
  h.trans ⟨rfl, rfl, rfl, by simp [World.setCell], fun k hk => Below.heap_setCell W p u k (by omega)⟩
theorem blk_put {W : World} {g : Nat} {T : TypeId} {cs : Array Value} (h : Blk W g T cs) {l : Nat} {o : Obj} (hl : W.heap[l]? = some o) (ho : o.isCells = false) (o' : Obj) : Blk (W.putObj l o') g T cs := by
  have hne : g ≠ l := by
    rintro rfl
    unfold Blk at h; rw [h] at hl; cases hl; cases ho
  exact (World.putObj_heap_other hne).trans h
theorem owns_put {W : World} {base : Nat} {e : TypeId} {size n : Nat} {v : Value} {xs : List Value} (h : W.ownsRow base e size v n xs) {l : Nat} {o : Obj} (hl : W.heap[l]? = some o) (ho : o.isCells = false) (o' : Obj) : (W.putObj l o').ownsRow base e size v n xs := by
  refine h.kept (grownBy_putObj' W l o') ?_
  rcases h.2 with ⟨rfl, _⟩ | ⟨g, cap, cur, rfl, _, hgb, _⟩
  · exact .inl rfl
  · refine .inr fun e' => ?_
    have : g = l := by simpa [Value.ownBlock] using e'
    subst this; rw [hgb] at hl; cases hl; cases ho
theorem owns_set {W : World} {base : Nat} {e : TypeId} {size n : Nat} {v : Value} {xs : List Value} (h : W.ownsRow base e size v n xs) {p : Addr} (hp : p.block < base) (u : Value) : (W.setCell p u).ownsRow base e size v n xs := by
  refine h.kept (row := some p.block) ⟨rfl, rfl, rfl, by simp [World.setCell], fun k _ hk => Below.heap_setCell W p u k (fun e => hk (by rw [e]))⟩ ?_
  rcases h.2 with ⟨rfl, _⟩ | ⟨g, cap, cur, rfl, hb, hgb, _⟩
  · exact .inl rfl
  · refine .inr fun e' => ?_
    have : g = p.block := by simpa [Value.ownBlock] using e'
    omega
theorem kpB_grown {W W' : World} {b : Nat} {row : Option Nat} (h : W.grownBy W' row) (hlt : b + 2 < W.heap.size) (hr : ∀ k, row = some k → k < b ∨ b + 2 < k) : KpB b W W' :=
  ⟨h.block b (by omega) (by intro e; have := hr b e.symm; omega), h.block (b + 1) (by omega) (by intro e; have := hr _ e.symm; omega), h.block (b + 2) (by omega) (by intro e; have := hr _ e.symm; omega)⟩
theorem kpB_below {W W' : World} {b : Nat} (h : Below W.heap.size W W') (hlt : b + 2 < W.heap.size) : KpB b W W' :=
  ⟨h.block b (by omega), h.block (b + 1) (by omega), h.block (b + 2) (by omega)⟩
theorem kpB_set (W : World) {b : Nat} {p : Addr} (hp : p.block < b ∨ b + 2 < p.block) (u : Value) : KpB b W (W.setCell p u) :=
  ⟨Below.heap_setCell W p u b (by omega), Below.heap_setCell W p u (b + 1) (by omega), Below.heap_setCell W p u (b + 2) (by omega)⟩
theorem kpB_refl (W : World) (b : Nat) : KpB b W W := ⟨rfl, rfl, rfl⟩
theorem others_below {W W' : World} (h : Below W.heap.size W W') : KeepsOthers W W' := ⟨h.size, fun k o hk _ => (h.block k (Array.getElem?_eq_some_iff.1 hk).1).trans hk⟩
theorem others_own {W W' : World} {base : Nat} {e : TypeId} {size n : Nat} {v : Value} {xs : List Value} (h : W.ownsRow base e size v n xs) (hg : W.grownBy W' v.ownBlock) : KeepsOthers W W' :=
  .of_grownBy hg fun j o hj ho => by
    rcases h.2 with ⟨rfl, _⟩ | ⟨g, cap, cur, rfl, _, hgb, _⟩
    · simp [Value.ownBlock] at hj
    · have : g = j := by simpa [Value.ownBlock] using hj
      subst this; rw [hgb] at ho; cases ho; rfl
theorem listIn_append_own {F : Fence} {nn : Nat} {P : Program} {w : World} {ops : Array Oper} {rest : List Oper} {o : Oper} {a : Act} {Q : Exit → Act → World → Prop}
    (hgd : o.guard = none) (s x : Operand) (t : TypeId) (ho : o.op = .call { callee := .builtin .append, args := #[s, x], argTypes := #[t, t] })
    (base : Nat) (e : TypeId) (z : Value) (size bytes : Nat) (ht : P.underlying t = some (.slice e)) (hi : (P.info? e).map (fun i => (i.zero, i.size, i.bytes)) = some (some z, size, bytes))
    (hzs : z.cells.size = size) (hsz : 0 < size)
    (v : Value) (n : Nat) (xs : List Value) (hs : a.eval s = v) (hown : w.ownsRow base e size v n xs)
    (ad : Addr) (m c : Nat) (news : List Value) (hx : a.eval x = .slice (some ad) m c) (hl : news.length = m * size) (hnews : ∀ j u, news[j]? = some u → w.cell? (ad.add j) = some u) (h1 : ∀ u ∈ news, u.oneCell' = true)
    (h63 : n + m ≤ maxLen) (hbytes : (n + m) * bytes ≤ 140737488355328) (hbase : base ≤ w.heap.size)
    (h : ∀ v' w', w'.ownsRow base e size v' (n + m) (xs ++ news) → w.grownBy w' v.ownBlock → (v' = .slice none 0 0 ↔ v = .slice none 0 0 ∧ m = 0) → wpListIn F nn P ops Q rest (a.put o.dst v') w') : wpListIn F nn P ops Q (o :: rest) a w := by
  obtain ⟨i, hi1, hi2, hi3, hi4⟩ := info_parts hi
  exact wpListIn_append_own w hgd s x t ho base e i z size bytes ht hi1 hi2 hi3 hi4 hzs hsz v n xs hs hown ad m c news hx hl hnews h1 h63 hbytes hbase h
theorem owns_drewN {w : World} {base : Nat} {e : TypeId} {size k : Nat} {v : Value} {xs : List Value} (h : w.ownsRow base e size v k xs) (n : Nat) : (w.drewN n).ownsRow base e size v k xs := h
theorem blk_drewN {w : World} {g : Nat} {T : TypeId} {cs : Array Value} (h : Blk w g T cs) (n : Nat) : Blk (w.drewN n) g T cs := h
theorem infoStr0 : (Tryz.prog.info? 9).map (fun i => (i.zero, i.size, i.bytes)) = some (some (.string ⟨#[]⟩), 1, 16) := by kernel_rfl
theorem owns_base {W : World} {base base' : Nat} {e : TypeId} {size : Nat} {v : Value} {k : Nat} {xs : List Value} (h : W.ownsRow base e size v k xs) (hb : base' ≤ base) : W.ownsRow base' e size v k xs := by
  refine ⟨h.1, ?_⟩
  rcases h.2 with hn | ⟨g, cap, cur, hv, hbg, rest⟩
  · exact .inl hn
  · exact .inr ⟨g, cap, cur, hv, Nat.le_trans hb hbg, rest⟩
/-- a block that is not the row's own stands behind an append -/
theorem Blk.grown {w w' : World} {g base : Nat} {T e : TypeId} {size n : Nat} {v : Value} {xs : List Value} {cs : Array Value} (h : Blk w g T cs) (hown : w.ownsRow base e size v n xs) (hg : w.grownBy w' v.ownBlock) (hlt : g < base) : Blk w' g T cs :=
  (hg.block g h.lt (by intro hk; have := (hown.lt g hk.symm).1; omega)).trans h
end Go.Proofs.YtfeenkofnbefaaaGreatDoor

namespace Go.Proofs.YtfeenkofnbefaaaGreatDoor
open Go Go.RowKit Go.Shelf
set_option linter.unusedVariables false
set_option maxRecDepth 100000
attribute [local go_sem] Oper.semAt_some
theorem key_of_pre {pre : List (List UInt8)} {x : List UInt8} (h : pre ++ [x] <+: splitL 124 keyText) : ∃ k, keyRows[pre.length]? = some k ∧ x = k.text ∧ pre = (keyRows.take pre.length).map KR.text := by
  rw [splitKeys] at h
  obtain ⟨t, ht⟩ := h
  have hl : pre.length < keyRows.length := by
    have := congrArg List.length ht
    simp at this; omega
  refine ⟨keyRows[pre.length], by simp [hl], ?_, ?_⟩
  · have := congrArg (·[pre.length]?) ht
    simpa [List.getElem?_append, hl] using this
  · have := congrArg (·.take pre.length) ht
    simpa [List.map_take] using this
def NamesPost (w : World) (e : Ending) (w' : World) : Prop :=
  ∃ v, e = .returned v ∧ w'.ownsRow w.heap.size 9 1 v keyRows.length (keyRows.map fun k => Value.string (bs k.name)) ∧ Below w.heap.size w w'
theorem kt_len : keyText.length ≤ 1099511627776 := by decide
def INames (base b : Nat) (w0 : World) (pre : List (List UInt8)) (W : World) : Prop :=
  ∃ v, Blk W base 56 #[v] ∧ W.ownsRow (b + 3) 9 1 v pre.length ((keyRows.take pre.length).map fun k => Value.string (bs k.name)) ∧ Below base w0 W ∧ b + 2 < W.heap.size
theorem stands_names (base b B : Nat) (w0 : World) (h1 : base < b) (h2 : b + 2 < B) (h3 : base ≤ w0.heap.size) : Stands B b (INames base b w0) := by
  refine ⟨?_, ?_, ?_⟩
  · rintro s A o ⟨v, hv, hr, hb, hs⟩
    exact ⟨v, hv.below ((Below.refl _ _).alloc (Nat.le_refl _) _), hr.alloc o, hb.alloc (Nat.le_trans h3 hb.size) _, by rw [World.size_alloc]; omega⟩
  · rintro s A l o o' ⟨v, hv, hr, hb, hs⟩ hl hl' ho
    exact ⟨v, blk_put hv hl' ho o', owns_put hr hl' ho o', below_put hb (by omega) _, by simpa using hs⟩
  · rintro s A u ⟨v, hv, hr, hb, hs⟩
    exact ⟨v, hv.far (by simp only; omega) u, owns_set hr (by simp only; omega) u, below_set hb (by simp only; omega) u, by simpa [World.setCell] using hs⟩
end Go.Proofs.YtfeenkofnbefaaaGreatDoor

namespace Go.Proofs.YtfeenkofnbefaaaGreatDoor
open Go Go.RowKit
set_option linter.unusedVariables false
set_option maxRecDepth 100000
def KR.cells (k : KR) : List Value := [.string (bs k.name), .int .i64 (dnum k.lk : Int), .int .i64 (dnum k.ll : Int), .int .i64 (dnum k.lh : Int), .string (bs k.dv), .bool (k.no == [78]), .bool (k.lo == [76])]
def allCells : List Value := keyRows.flatMap KR.cells
theorem flat7 (l : List KR) (i : Nat) (k : KR) (h : l[i]? = some k) (j : Nat) (hj : j < 7) : (l.flatMap KR.cells)[i * 7 + j]? = (k.cells)[j]? := by
  induction l generalizing i with
  | nil => simp at h
  | cons x l ih =>
    rw [List.flatMap_cons]
    cases i with
    | zero =>
      simp only [List.getElem?_cons_zero, Option.some.injEq] at h
      subst h
      rw [List.getElem?_append_left (by simp [KR.cells]; omega)]
      simp
    | succ i =>
      rw [List.getElem?_append_right (by simp [KR.cells]; omega), show (i + 1) * 7 + j - (KR.cells x).length = i * 7 + j by simp [KR.cells]; omega]
      exact ih i (by simpa using h)
def KnownPost (w : World) (e : Ending) (w' : World) : Prop :=
  e = .returned (.slice (some ⟨w.heap.size, 0, none⟩) 18 18) ∧ w' = w.alloc (.cells allCells.toArray 161)
set_option maxHeartbeats 4000000 in
theorem known_any (w : World) : Calls Tryz.prog 95 #[] w fun e w' => KnownPost w e w' := by
  go_enter Tryz.func95, Tryz.ntmps95
  go_wp2
  go_ret
  exact ⟨rfl, congrArg (fun c => w.alloc (.cells c _)) (by kernel_rfl)⟩
end Go.Proofs.YtfeenkofnbefaaaGreatDoor
