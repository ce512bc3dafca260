/- What stands where some blocks are written; where a slice lies that was appended to. -/
import Derived.Test.YtfeenkofnbefaaaGreatDoorRange
import Derived.Test.YtfeenkofnbefaaaGreatDoorPairIn
import Derived.Maps.AppendAt
import Derived.Test.YtfeenkofnbefaaaGreatDoorClone
set_option linter.unusedSectionVars false
set_option linter.unusedSimpArgs false
set_option linter.unusedVariables false
namespace Go.Proofs.YtfeenkofnbefaaaGreatDoor
open Go Go.RowKit
set_option linter.unusedVariables false
set_option linter.unusedSectionVars false
set_option linter.unusedSimpArgs false
/-- all old blocks but some stand -/
structure KeptS (S : Nat → Prop) (a w : World) : Prop where
  os : w.os = a.os
  tape : w.tape = a.tape
  output : w.output = a.output
  size : a.heap.size ≤ w.heap.size
  block : ∀ k, k < a.heap.size → ¬ S k → w.heap[k]? = a.heap[k]?
theorem KeptS.refl (S : Nat → Prop) (a : World) : KeptS S a a := ⟨rfl, rfl, rfl, Nat.le_refl _, fun _ _ _ => rfl⟩
theorem KeptS.below {S : Nat → Prop} {a w w' : World} (h : KeptS S a w) (hb : Below w.heap.size w w') : KeptS S a w' :=
  ⟨hb.os.trans h.os, hb.tape.trans h.tape, hb.output.trans h.output, Nat.le_trans h.size hb.size, fun k hk hn => (hb.block k (Nat.lt_of_lt_of_le hk h.size)).trans (h.block k hk hn)⟩
theorem KeptS.alloc {S : Nat → Prop} {a w : World} (h : KeptS S a w) (o : Obj) : KeptS S a (w.alloc o) := h.below ((Below.refl _ _).alloc (Nat.le_refl _) _)
theorem KeptS.drew {S : Nat → Prop} {a w : World} (h : KeptS S a w) : KeptS S a w.drew := h.below (Below.refl _ _).drew
theorem KeptS.only {S : Nat → Prop} {a w w' : World} {r : Option Nat} (h : KeptS S a w) (hg : w.grownBy w' r) (hr : ∀ g, r = some g → S g ∨ a.heap.size ≤ g) : KeptS S a w' :=
  ⟨hg.os.trans h.os, hg.tape.trans h.tape, hg.output.trans h.output, Nat.le_trans h.size hg.size, fun k hk hn => (hg.block k (Nat.lt_of_lt_of_le hk h.size) (by
    intro e
    rcases hr k e.symm with h1 | h1
    · exact hn h1
    · omega)).trans (h.block k hk hn)⟩
theorem KeptS.set {S : Nat → Prop} {a w : World} (h : KeptS S a w) (p : Addr) (u : Value) (hp : S p.block ∨ a.heap.size ≤ p.block) : KeptS S a (w.setCell p u) :=
  ⟨h.os, h.tape, h.output, by simpa [World.setCell] using h.size, fun k hk hn => (Below.heap_setCell w p u k (by
    rintro rfl
    rcases hp with h1 | h1
    · exact hn h1
    · omega)).trans (h.block k hk hn)⟩
theorem KeptS.cell {S : Nat → Prop} {a w : World} (h : KeptS S a w) {b o : Nat} {u : Value} (hc : a.cell? ⟨b, o, none⟩ = some u) (hn : ¬ S b) : w.cell? ⟨b, o, none⟩ = some u :=
  (World.cell?_of_block (a := ⟨b, o, none⟩) (h.block b (block_lt_of_cell hc) hn)).trans hc
theorem KeptS.blk {S : Nat → Prop} {a w : World} (h : KeptS S a w) {b : Nat} {T : TypeId} {cs : Array Value} (hc : Blk a b T cs) (hn : ¬ S b) : Blk w b T cs := (h.block b hc.lt hn).trans hc
theorem KeptS.toBelow {S : Nat → Prop} {a w : World} (h : KeptS S a w) {B : Nat} (hS : ∀ k, S k → B ≤ k) (hB : B ≤ a.heap.size) : Below B a w :=
  ⟨h.os, h.tape, h.output, h.size, fun k hk => h.block k (by omega) (fun hs => by have := hS k hs; omega)⟩
theorem KeptS.mono {S T : Nat → Prop} {a w : World} (h : KeptS S a w) (hst : ∀ k, S k → T k) : KeptS T a w := ⟨h.os, h.tape, h.output, h.size, fun k hk hn => h.block k hk (fun hs => hn (hst k hs))⟩
theorem KeptS.trans {S : Nat → Prop} {a b c : World} (h : KeptS S a b) {T : Nat → Prop} (k : KeptS T b c) (hT : ∀ i, T i → S i ∨ a.heap.size ≤ i) : KeptS S a c :=
  ⟨k.os.trans h.os, k.tape.trans h.tape, k.output.trans h.output, Nat.le_trans h.size k.size, fun i hi hn => (k.block i (Nat.lt_of_lt_of_le hi h.size) (fun ht => by
    rcases hT i ht with h1 | h1
    · exact hn h1
    · omega)).trans (h.block i hi hn)⟩
/-- what reads as pairs lies in none of some blocks -/
def FarO (v : Value) (l : PL) (S : Nat → Prop) : Prop := l.length = 0 ∨ ∃ b o n c, v = .slice (some ⟨b, o, none⟩) n c ∧ ¬ S b
theorem PSl.kept {S : Nat → Prop} {a w : World} {v : Value} {l : PL} (h : PSl a v l) (hf : FarO v l S) (hk : KeptS S a w) : PSl w v l := by
  obtain ⟨x, cap, rfl, hl, hc⟩ := h
  refine ⟨x, cap, rfl, hl, ?_⟩
  rcases hf with h0 | ⟨b', o', n', c', hv, hn⟩
  · exact .inl h0
  · cases hv
    rcases hc with h0 | ⟨b, o, hx, hd⟩
    · exact .inl h0
    · cases hx
      exact .inr ⟨b', o', rfl, fun j u hu => hk.cell (hd j u hu) hn⟩
/-- what lies in old memory lies in no block that is new -/
theorem FarO.new {v : Value} {l : PL} {w : World} (h : PSl w v l) {S : Nat → Prop} (hS : ∀ k, S k → w.heap.size ≤ k) : FarO v l S := by
  obtain ⟨x, cap, rfl, hl, hc⟩ := h
  rcases hc with h0 | ⟨b, o, rfl, hd⟩
  · exact .inl h0
  · by_cases hz : l.length = 0
    · exact .inl hz
    · refine .inr ⟨b, o, _, _, rfl, fun hs => ?_⟩
      have h1 := hS b hs
      have hlt : 0 < (pairCells l).length := by rw [pairCells_length]; omega
      have h2 : b < w.heap.size := block_lt_of_cell (hd 0 _ (List.getElem?_eq_getElem hlt))
      omega
theorem FarO.lt {v : Value} {l : PL} {w : World} (h : PSl w v l) : l.length = 0 ∨ ∃ b o n c, v = .slice (some ⟨b, o, none⟩) n c ∧ b < w.heap.size := by
  obtain ⟨x, cap, rfl, hl, hc⟩ := h
  rcases hc with h0 | ⟨b, o, rfl, hd⟩
  · exact .inl h0
  · by_cases hz : l.length = 0
    · exact .inl hz
    · have hlt : 0 < (pairCells l).length := by rw [pairCells_length]; omega
      exact .inr ⟨b, o, _, _, rfl, block_lt_of_cell (hd 0 _ (List.getElem?_eq_getElem hlt))⟩
theorem FarO.mono {v : Value} {l : PL} {S T : Nat → Prop} (h : FarO v l S) (hst : ∀ k, T k → S k) : FarO v l T := by
  rcases h with h0 | ⟨b, o, n, c, hv, hn⟩
  · exact .inl h0
  · exact .inr ⟨b, o, n, c, hv, fun ht => hn (hst b ht)⟩
/-- a row that is not written -/
theorem owns_only {w w' : World} {base : Nat} {e : TypeId} {size n : Nat} {v : Value} {xs : List Value} (h : w.ownsRow base e size v n xs) {r : Option Nat} (hg : w.grownBy w' r) (hr : ∀ g, v.ownBlock = some g → r ≠ some g) : w'.ownsRow base e size v n xs :=
  h.kept (row := r) hg (by
    cases hv : v.ownBlock with
    | none => exact .inl rfl
    | some g => exact .inr (fun e => hr g hv e.symm))
theorem owns_setk {w : World} {base : Nat} {e : TypeId} {size n : Nat} {v : Value} {xs : List Value} (h : w.ownsRow base e size v n xs) (g i : Nat) (u : Value) (hr : v.ownBlock ≠ some g) : (w.setCell ⟨g, i, none⟩ u).ownsRow base e size v n xs :=
  owns_only h (only_set (only_refl w (some g)) i u) (fun k hk e => hr (by rw [hk]; exact e.symm))
theorem list_append_at {P : Program} {ops : Array Oper} {rest : List Oper} {o : Oper} {a : Act} {w : World} {Q : Exit → Act → World → Prop}
    (hgd : o.guard = none) (s x : Operand) (t : TypeId) (ho : o.op = .call { callee := .builtin .append, args := #[s, x], argTypes := #[t, t] })
    (base : Nat) (e : TypeId) (z : Value) (size bytes : Nat) (ht : P.underlying t = some (.slice e)) (hi : (P.info? e).map (fun i => (i.zero, i.size, i.bytes)) = some (some z, size, bytes))
    (hzs : z.cells.size = size) (hsz : 0 < size)
    (v : Value) (n : Nat) (xs : List Value) (hs : a.eval s = v) (hown : w.ownsRow base e size v n xs)
    (ad : Addr) (m c : Nat) (news : List Value) (hx : a.eval x = .slice (some ad) m c) (hl : news.length = m * size) (hnews : ∀ j u, news[j]? = some u → w.cell? (ad.add j) = some u) (h1 : ∀ u ∈ news, u.oneCell' = true)
    (h63 : n + m ≤ maxLen) (hbytes : (n + m) * bytes ≤ 140737488355328) (hbase : base ≤ w.heap.size)
    (h : ∀ v' w', w'.ownsRow base e size v' (n + m) (xs ++ news) → w.grownBy w' v.ownBlock → (v'.ownBlock = v.ownBlock ∨ v'.ownBlock = some w.heap.size) → wpList P ops Q rest (a.put o.dst v') w') : wpList P ops Q (o :: rest) a w := by
  obtain ⟨i, hi1, hi2, hi3, hi4⟩ := info_parts hi
  exact wpList_append_own_at w hgd s x t ho base e i z size bytes ht hi1 hi2 hi3 hi4 hzs hsz v n xs hs hown ad m c news hx hl hnews h1 h63 hbytes hbase fun v' w' h2 h3 _ h5 => h v' w' h2 h3 h5
theorem step_append_at {P : Program} {ops : Array Oper} {o : Oper} {a : Act} {w : World} {K : Act → World → Prop} {Q : Exit → Act → World → Prop} {E : Prop}
    (hgd : o.guard = none) (s x : Operand) (t : TypeId) (ho : o.op = .call { callee := .builtin .append, args := #[s, x], argTypes := #[t, t] })
    (base : Nat) (e : TypeId) (z : Value) (size bytes : Nat) (ht : P.underlying t = some (.slice e)) (hi : (P.info? e).map (fun i => (i.zero, i.size, i.bytes)) = some (some z, size, bytes))
    (hzs : z.cells.size = size) (hsz : 0 < size)
    (v : Value) (n : Nat) (xs : List Value) (hs : a.eval s = v) (hown : w.ownsRow base e size v n xs)
    (ad : Addr) (m c : Nat) (news : List Value) (hx : a.eval x = .slice (some ad) m c) (hl : news.length = m * size) (hnews : ∀ j u, news[j]? = some u → w.cell? (ad.add j) = some u) (h1 : ∀ u ∈ news, u.oneCell' = true)
    (h63 : n + m ≤ maxLen) (hbytes : (n + m) * bytes ≤ 140737488355328) (hbase : base ≤ w.heap.size)
    (h : ∀ v' w', w'.ownsRow base e size v' (n + m) (xs ++ news) → w.grownBy w' v.ownBlock → (v'.ownBlock = v.ownBlock ∨ v'.ownBlock = some w.heap.size) → K (a.put o.dst v') w') :
    if Region.wanted o (yielded ops a.tmps) = true then Oper.wp P o a w K Q else E := by
  obtain ⟨i, hi1, hi2, hi3, hi4⟩ := info_parts hi
  rw [if_pos (by simp [Region.wanted, hgd])]
  obtain ⟨v', w', hr, h2, h3, h4, h5⟩ := run_append_own_at (P := P) w base t o.type e i z size bytes ht hi1 hi2 hi3 hi4 hzs hsz v n xs hown ad m c news hl hnews h1 h63 hbytes hbase
  unfold Oper.wp execOp
  simp only [ho, resolve, invoke, builtin, Sem.run_bind, Sem.run_pure, Result.andThen_ok, List.map_toArray, List.map_cons, List.map_nil, hs, hx, hr]
  exact h v' w' h2 h3 h5
end Go.Proofs.YtfeenkofnbefaaaGreatDoor

namespace Go.Proofs.YtfeenkofnbefaaaGreatDoor
open Go Go.RowKit
set_option linter.unusedVariables false
set_option linter.unusedSectionVars false
set_option linter.unusedSimpArgs false
set_option maxRecDepth 100000
def SN (g : Nat) (rv : Value) (k : Nat) : Prop := k = g ∨ rv.ownBlock = some k
/-- the midst of a round -/
structure NSt (T : TypeId) (w : World) (rv ov : Value) (B g pb : Nat) (x1 x2 : List UInt8) (W : World) (rvk : Value) (r : PL) (o : Value) (out : PL) : Prop where
  bN : Blk W g T #[ov, rvk]
  bP : Blk W pb 77 #[.string (bs x1), .string (bs x2)]
  hR : W.ownsRow B 77 2 rvk r.length (pairCells r)
  hO : W.ownsRow w.heap.size 77 2 o out.length (pairCells out)
  rb : rvk.ownBlock = rv.ownBlock ∨ ∃ q, rvk.ownBlock = some q ∧ w.heap.size ≤ q
  ap : ∀ q, o.ownBlock = some q → rvk.ownBlock ≠ some q
  pR : rvk.ownBlock ≠ some pb
  pO : o.ownBlock ≠ some pb
  gR : rvk.ownBlock ≠ some g
  gw : g < w.heap.size
  gp : g ≠ pb
  K : KeptS (SN g rv) w W
theorem blk_grown {w w' : World} {b : Nat} {T : TypeId} {cs : Array Value} {r : Option Nat} (h : Blk w b T cs) (hg : w.grownBy w' r) (hr : r ≠ some b) : Blk w' b T cs := (hg.block b h.lt (fun e => hr e.symm)).trans h
section
variable {T : TypeId} {w : World} {rv ov : Value} {B g pb : Nat} {x1 x2 : List UInt8} {W : World} {rvk : Value} {r : PL} {o : Value} {out : PL}
theorem NSt.gO (h : NSt T w rv ov B g pb x1 x2 W rvk r o out) : o.ownBlock ≠ some g := fun e => by have := (h.hO.lt g e).1; have := h.gw; omega
theorem NSt.wW (h : NSt T w rv ov B g pb x1 x2 W rvk r o out) : w.heap.size ≤ W.heap.size := h.K.size
theorem NSt.below {W' : World} (h : NSt T w rv ov B g pb x1 x2 W rvk r o out) (hb : Below W.heap.size W W') : NSt T w rv ov B g pb x1 x2 W' rvk r o out :=
  ⟨h.bN.below hb, h.bP.below hb, owns_below h.hR hb, owns_below h.hO hb, h.rb, h.ap, h.pR, h.pO, h.gR, h.gw, h.gp, h.K.below hb⟩
theorem NSt.app {w8 : World} {ob : Obj} {v' : Value} {a1 : List UInt8} (h : NSt T w rv ov B g pb x1 x2 W rvk r o out) (hg : (W.alloc ob).grownBy w8 o.ownBlock)
    (hown : w8.ownsRow w.heap.size 77 2 v' (out.length + 1) (pairCells out ++ [.string (bs x1), .string (bs a1)])) (hat : v'.ownBlock = o.ownBlock ∨ v'.ownBlock = some (W.alloc ob).heap.size) :
    NSt T w rv ov B g pb x1 x2 w8 rvk r v' (out ++ [(x1, a1)]) := by
  have hA := h.below ((Below.refl W.heap.size W).alloc (Nat.le_refl _) ob)
  have hz : (W.alloc ob).heap.size = W.heap.size + 1 := by simp
  have hpl := h.bP.lt
  refine ⟨blk_grown hA.bN hg h.gO, blk_grown hA.bP hg h.pO, owns_only hA.hR hg (fun q hq e => h.ap q e hq), by rw [pairCells_snoc, List.length_append]; exact hown, h.rb, ?_, h.pR, ?_, h.gR, h.gw, h.gp, hA.K.only hg (fun q hq => .inr (h.hO.lt q hq).1)⟩
  · intro q hq e
    rcases hat with h1 | h1
    · exact h.ap q (h1 ▸ hq) e
    · rw [h1] at hq
      cases hq
      have := (h.hR.lt _ e).2
      omega
  · intro e
    rcases hat with h1 | h1
    · exact h.pO (h1 ▸ e)
    · rw [h1] at e
      cases e
      omega
theorem NSt.del {w9 : World} {rv1 : Value} {r1 : PL} (h : NSt T w rv ov B g pb x1 x2 W rvk r o out) (hg : W.grownBy w9 rvk.ownBlock) (hown : w9.ownsRow B 77 2 rv1 r1.length (pairCells r1)) (hb : rv1.ownBlock = rvk.ownBlock) :
    NSt T w rv ov B g pb x1 x2 (w9.setCell ⟨g, 1, none⟩ rv1) rv1 r1 o out ∧ Blk w9 g T #[ov, rvk] := by
  have hN := blk_grown h.bN hg h.gR
  have hK := h.K.only hg (fun q hq => by
    rcases h.rb with h1 | ⟨q', h1, h2⟩
    · exact .inl (.inr (h1 ▸ hq))
    · rw [h1] at hq
      cases hq
      exact .inr h2)
  refine ⟨⟨hN.set 1 rv1, (blk_grown h.bP hg h.pR).far (p := ⟨g, 1, none⟩) (Ne.symm h.gp) _, owns_setk hown _ _ _ (by rw [hb]; exact h.gR), owns_setk (owns_only h.hO hg (fun q hq => h.ap q hq)) _ _ _ h.gO, by rw [hb]; exact h.rb, by rw [hb]; exact h.ap, by rw [hb]; exact h.pR, h.pO, by rw [hb]; exact h.gR, h.gw, h.gp, hK.set _ _ (.inl (.inl rfl))⟩, hN⟩
theorem NSt.recd {w11 Wd : World} {rv2 : Value} {a2 : List UInt8} (h : NSt T w rv ov B g pb x1 x2 W rvk r o out) (hbd : Below W.heap.size W Wd) (hz : W.heap.size < Wd.heap.size) (hg : Wd.grownBy w11 rvk.ownBlock)
    (hown : w11.ownsRow B 77 2 rv2 (r.length + 1) (pairCells r ++ [.string (bs x1), .string (bs a2)])) (hat : rv2.ownBlock = rvk.ownBlock ∨ rv2.ownBlock = some Wd.heap.size) :
    NSt T w rv ov B g pb x1 x2 (w11.setCell ⟨g, 1, none⟩ rv2) rv2 (r ++ [(x1, a2)]) o out ∧ Blk w11 g T #[ov, rvk] := by
  have hA := h.below hbd
  have hpl := h.bP.lt
  have hgl := h.bN.lt
  have hwW := h.wW
  have hN := blk_grown hA.bN hg h.gR
  have hK := hA.K.only hg (fun q hq => by
    rcases h.rb with h1 | ⟨q', h1, h2⟩
    · exact .inl (.inr (h1 ▸ hq))
    · rw [h1] at hq
      cases hq
      exact .inr h2)
  have hg2 : rv2.ownBlock ≠ some g := fun e => by
    rcases hat with h1 | h1
    · exact h.gR (h1 ▸ e)
    · rw [h1] at e
      cases e
      omega
  refine ⟨⟨hN.set 1 rv2, (blk_grown hA.bP hg h.pR).far (p := ⟨g, 1, none⟩) (Ne.symm h.gp) _, owns_setk (by rw [pairCells_snoc, List.length_append]; exact hown) _ _ _ hg2, owns_setk (owns_only hA.hO hg (fun q hq => h.ap q hq)) _ _ _ h.gO, ?_, ?_, ?_, h.pO, hg2, h.gw, h.gp, hK.set _ _ (.inl (.inl rfl))⟩, hN⟩
  · rcases hat with h1 | h1
    · rw [h1]; exact h.rb
    · exact .inr ⟨_, h1, by omega⟩
  · intro q hq e
    rcases hat with h1 | h1
    · exact h.ap q hq (h1 ▸ e)
    · rw [h1] at e
      cases e
      have := (h.hO.lt _ hq).2
      omega
  · intro e
    rcases hat with h1 | h1
    · exact h.pR (h1 ▸ e)
    · rw [h1] at e
      cases e
      omega
/-- what is recorded is laid anew -/
theorem NSt.newrec {W1 : World} {rv2 : Value} {r2 : PL} (h : NSt T w rv ov B g pb x1 x2 W rvk r o out) (hb : Below W.heap.size W W1) (hown : W1.ownsRow W.heap.size 77 2 rv2 r2.length (pairCells r2)) (hB : B ≤ w.heap.size) (hne : 0 < r2.length) :
    NSt T w rv ov B g pb x1 x2 (W1.setCell ⟨g, 1, none⟩ rv2) rv2 r2 o out ∧ Blk W1 g T #[ov, rvk] := by
  have hA := h.below hb
  have hgl := h.bN.lt
  have hpl := h.bP.lt
  have hwW := h.wW
  have hg2 : rv2.ownBlock ≠ some g := fun e => by have := (hown.lt g e).1; omega
  refine ⟨⟨hA.bN.set 1 rv2, hA.bP.far (p := ⟨g, 1, none⟩) (Ne.symm h.gp) _, ?_, owns_setk hA.hO _ _ _ h.gO, ?_, ?_, ?_, h.pO, hg2, h.gw, h.gp, hA.K.set _ _ (.inl (.inl rfl))⟩, hA.bN⟩
  · have := owns_setk hown g 1 rv2 hg2
    rcases this.2 with h0 | ⟨q, cap, cur, h1, h2, h3⟩
    · exact ⟨this.1, .inl h0⟩
    · exact ⟨this.1, .inr ⟨q, cap, cur, h1, by omega, h3⟩⟩
  · cases hq : rv2.ownBlock with
    | none =>
      rcases hown.2 with ⟨_, h0⟩ | ⟨q, cap, cur, rfl, _⟩
      · omega
      · simp [Value.ownBlock] at hq
    | some q => exact .inr ⟨q, rfl, by have := (hown.lt q hq).1; omega⟩
  · intro q hq e
    have h1 := (hown.lt q e).1
    have h2 := (h.hO.lt q hq).2
    omega
  · intro e
    have h1 := (hown.lt pb e).1
    omega
end
end Go.Proofs.YtfeenkofnbefaaaGreatDoor
