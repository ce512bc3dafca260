/- The head that 48 bytes are: steps that both sides take. -/
import Derived.Test.YtfeenkofnbefaaaGreatDoorHeadRdPure
import Derived.Test.YtfeenkofnbefaaaGreatDoorHeadWr
import Derived.Test.YtfeenkofnbefaaaGreatDoorRel
set_option linter.unusedSectionVars false
set_option linter.unusedSimpArgs false
set_option linter.unusedVariables false
namespace Go.Proofs.YtfeenkofnbefaaaGreatDoor
open Go Go.RowKit
set_option linter.unusedVariables false
set_option linter.unusedSectionVars false
set_option linter.unusedSimpArgs false
set_option maxRecDepth 100000
theorem infoU64 : (Tryz.prog.info? 122).map (fun i => (i.zero, i.size, i.bytes)) = some (some (.int .u64 0), 1, 8) := by kernel_rfl
theorem str_at (l : List UInt8) (k : Nat) (hk : k < l.length) (w : World) : (Instr.index 9 (.string (bs l)) (.int .i64 (k : Int))).run Tryz.prog w = .ok (.int .u8 ((l.getD k 0).toNat : Int)) w := by
  have h2 : l.getD k 0 = l[k] := by simp [List.getD, hk]
  rw [h2]
  simp [go_sem, hk]
theorem str_mid (l : List UInt8) (a n : Nat) (hk : a + n ≤ l.length) (hL : l.length ≤ 1000000) (w : World) :
    (Instr.slice 9 (.string (bs l)) (some (.int .i64 (a : Int))) (some (.int .i64 ((a : Int) + (n : Int)))) none).run Tryz.prog w = .ok (.string (bs ((l.drop a).take n))) w := by
  simp [go_sem]
  rw [if_pos (by omega), if_pos (by omega), show ((a : Int) + (n : Int)).toNat = a + n by omega, List.drop_take, Nat.add_sub_cancel_left]
theorem and63 (x : UInt8) : bits .and .u8 (x.toNat : Int) 63 = ((x.toNat % 64 : Nat) : Int) := by
  have : ∀ k : Fin 256, bits .and .u8 ((k.val : Nat) : Int) 63 = ((k.val % 64 : Nat) : Int) := by decide
  exact this ⟨x.toNat, x.toNat_lt⟩
theorem and64 (x : UInt8) (h : x.toNat < 128) : bits .and .u8 (x.toNat : Int) 64 = if 64 ≤ x.toNat then 64 else 0 := by
  have : ∀ k : Fin 128, bits .and .u8 ((k.val : Nat) : Int) 64 = if 64 ≤ k.val then 64 else 0 := by decide
  exact this ⟨x.toNat, h⟩
theorem i64_or_nat (x y : Nat) (hx : x < 4611686018427387904) (hy : y < 4611686018427387904) : bits .or .i64 (x : Int) (y : Int) = ((x ||| y : Nat) : Int) := by
  unfold bits
  show IntKind.i64.wrap (((BitVec.ofInt 64 (x : Int) ||| BitVec.ofInt 64 (y : Int)).toNat : Nat) : Int) = _
  rw [BitVec.ofInt_natCast, BitVec.ofInt_natCast, BitVec.toNat_or, BitVec.toNat_ofNat, BitVec.toNat_ofNat, Nat.mod_eq_of_lt (show x < 2 ^ 64 by omega), Nat.mod_eq_of_lt (show y < 2 ^ 64 by omega), IntKind.wrap_i64]
  have : x ||| y < 2 ^ 62 := Nat.or_lt_two_pow (by omega) (by omega)
  omega
theorem num3 (a b c : UInt8) : num [a, b, c] = a.toNat * 65536 + b.toNat * 256 + c.toNat := by
  simp [num]; omega
theorem or3 (a b c : UInt8) : bits .or .i64 (bits .or .i64 ((a.toNat : Int) * 65536) ((b.toNat : Int) * 256)) (c.toNat : Int) = ((num [a, b, c] : Nat) : Int) := by
  have h1 := a.toNat_lt; have h2 := b.toNat_lt; have h3 := c.toNat_lt
  have e1 := i64_or_nat (a.toNat * 65536) (b.toNat * 256) (by omega) (by omega)
  have e2 := nat_join 16 (a.toNat * 65536) (b.toNat * 256) (by omega) (by omega)
  rw [e2] at e1
  have e3 := i64_or_nat (a.toNat * 65536 + b.toNat * 256) c.toNat (by omega) (by omega)
  have e4 := nat_join 8 (a.toNat * 65536 + b.toNat * 256) c.toNat (by omega) (by omega)
  rw [e4] at e3
  rw [num3, ← e3, ← e1]
  simp
theorem get_bs (l : List UInt8) (hl : l.length ≤ 8) (w : World) : Calls Tryz.prog 114 #[.string (bs l)] w fun e w' => e = .returned (.tuple #[.int .u64 (num l : Nat), .nilIface]) ∧ w = w' := by
  have hsz : (bs l).size = l.length := by simp [bs, ByteArray.size]
  have := get_any (bs l) w (by omega)
  rwa [if_pos (by omega), show (bs l).data.toList = l by simp [bs]] at this
def ReadPost (R : RdH) (w : World) (e : Ending) (w' : World) : Prop :=
  ∃ v ev, e = .returned (.tuple #[headV R.op R.now R.flags v, .int .i64 R.words, .int .i64 R.data, ev]) ∧ ErrIs w' ev R.e (-1) ∧ Sl w' v 1 R.vals.length (u64Cells R.vals) ∧ Below w.heap.size w w'
def HC (op : Int) (now : Bool) (flags : Int) (v : Value) : Array Value := #[.int .i64 op, .bool now, .int .i64 flags, v]
theorem own_sl {w : World} {base : Nat} {e : TypeId} {size n : Nat} {v : Value} {xs : List Value} (h : w.ownsRow base e size v n xs) : ∃ A cap, v = .slice A n cap := by
  rcases h.2 with ⟨rfl, rfl⟩ | ⟨g, cap, cur, rfl, _⟩
  · exact ⟨_, _, rfl⟩
  · exact ⟨_, _, rfl⟩
structure KeepBut (h : Nat) (W w : World) : Prop where
  size : W.heap.size ≤ w.heap.size
  keep : ∀ b, b < W.heap.size → b ≠ h → w.heap[b]? = W.heap[b]?
theorem KeepBut.cell {h : Nat} {W w : World} (k : KeepBut h W w) {p : Addr} (hp : p.block < W.heap.size) (hn : p.block ≠ h) : w.cell? p = W.cell? p := by
  unfold World.cell?; rw [k.keep _ hp hn]
theorem KeepBut.refl (h : Nat) (W : World) : KeepBut h W W := ⟨Nat.le_refl _, fun _ _ _ => rfl⟩
theorem KeepBut.below {h : Nat} {W w w' : World} (k : KeepBut h W w) (hb : Below w.heap.size w w') : KeepBut h W w' :=
  ⟨Nat.le_trans k.size hb.size, fun b h1 h2 => (hb.block b (Nat.lt_of_lt_of_le h1 k.size)).trans (k.keep b h1 h2)⟩
theorem KeepBut.set {h : Nat} {W w : World} (k : KeepBut h W w) (i : Nat) (u : Value) : KeepBut h W (w.setCell ⟨h, i, none⟩ u) :=
  ⟨by simpa [World.setCell] using k.size, fun b h1 h2 => (Below.heap_setCell w ⟨h, i, none⟩ u b h2).trans (k.keep b h1 h2)⟩
theorem KeepBut.grown {h : Nat} {W w w' : World} (k : KeepBut h W w) {e : TypeId} {size n : Nat} {v : Value} {xs : List Value} (hown : w.ownsRow W.heap.size e size v n xs) (hg : w.grownBy w' v.ownBlock) : KeepBut h W w' :=
  ⟨Nat.le_trans k.size hg.size, fun b h1 h2 => (hg.block b (Nat.lt_of_lt_of_le h1 k.size) (fun e => by have := (hown.lt b e.symm).1; omega)).trans (k.keep b h1 h2)⟩
theorem valsOf_snoc (r : HR) (s : List UInt8) (k : Nat) (f : FR) (h : r.fields[k]? = some f) : u64Cells ((valsOf r s).take (k + 1)) = u64Cells ((valsOf r s).take k) ++ [.int .u64 (valOf s f : Nat)] := by
  have h2 : (valsOf r s)[k]? = some (valOf s f) := by rw [valsOf, List.getElem?_map, h]; rfl
  obtain ⟨h3, h4⟩ := List.getElem?_eq_some_iff.1 h2
  rw [List.take_succ_eq_append_getElem h3, h4, u64Cells, u64Cells, List.map_append]; rfl
end Go.Proofs.YtfeenkofnbefaaaGreatDoor
