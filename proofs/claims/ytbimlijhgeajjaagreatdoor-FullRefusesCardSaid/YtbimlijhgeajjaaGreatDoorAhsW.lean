/- What the answers behind a login hold: plain laws. -/
import Derived.Test.YtbimlijhgeajjaaGreatDoorHeadRdPure
import Derived.Test.YtbimlijhgeajjaaGreatDoorProg
import Derived.Test.YtbimlijhgeajjaaGreatDoorBase
import Derived.Test.YtbimlijhgeajjaaGreatDoorRange
import Derived.Test.YtbimlijhgeajjaaGreatDoorSplitPure
import Derived.Maps.AppendAt
import Derived.Deep.QuietTactic
import Derived.BigQuiet
import Derived.Test.YtbimlijhgeajjaaGreatDoorField
import Derived.Test.YtbimlijhgeajjaaGreatDoorPairKey
set_option linter.unusedSectionVars false
set_option linter.unusedSimpArgs false
set_option linter.unusedVariables false
namespace Go.Proofs.YtbimlijhgeajjaaGreatDoor
open Go Go.RowKit
set_option linter.unusedVariables false
set_option linter.unusedSectionVars false
set_option linter.unusedSimpArgs false
set_option maxRecDepth 100000
def nmReason : List UInt8 := [82, 101, 97, 115, 111, 110]
def nmITT : List UInt8 := [73, 84, 84]
def nmTTT : List UInt8 := [84, 84, 84]
def nmLUN : List UInt8 := [76, 85, 78]
def nmStat : List UInt8 := [83, 116, 97, 116, 83, 78]
def nmExp : List UInt8 := [69, 120, 112, 67, 109, 100, 83, 78]
def nmMax : List UInt8 := [77, 97, 120, 67, 109, 100, 83, 78]
def tailN : List (List UInt8) := [nmStat, nmExp, nmMax]
def tailV (stat cmd : Int) : List Nat := [stat.toNat, cmd.toNat, ((cmd + 31) % 4294967296).toNat]
/-- what each name has, by the document -/
def tailG (g : List UInt8 → Nat) (stat cmd : Int) : List UInt8 → Nat := setN (setN (setN g nmStat stat.toNat) nmExp cmd.toNat) nmMax ((cmd + 31) % 4294967296).toNat
def fieldsOf (op : Int) : List FR := match findH op with | none => [] | some r => r.fields
theorem rightH_ok (op flags : Int) (r : HR) (vs : List Nat) (hf : findH op = some r) (hw : wrongH op false flags r.flags = false) (hl : r.fields.length = vs.length) (hb : firstBad r.fields vs 0 = none) : rightH op false flags vs = (0, -1) := by
  unfold rightH
  rw [hf]
  simp only [hw, Bool.false_eq_true, if_false, hb]
  rw [if_neg (by omega)]
theorem makeH_ok (op flags : Int) (r : HR) (ns : List (List UInt8)) (vs xs : List Nat) (hf : findH op = some r) (hg : mkG r.fields vs ns 0 (fun _ => 0) = (0, xs)) (hr : rightH op false flags xs = (0, -1)) : makeH op flags ns vs = (0, -1, xs) := by
  unfold makeH
  rw [hf]
  simp only [hg, hr]
  simp
/-- a Reject's values -/
def rejL (reason stat cmd : Int) : List Nat := [reason.toNat, 4294967295, stat.toNat, cmd.toNat, ((cmd + 31) % 4294967296).toNat, 0]
def nopL (lun itt : Nat) (stat cmd : Int) : List Nat := [lun, itt, 4294967295, stat.toNat, cmd.toNat, ((cmd + 31) % 4294967296).toNat]
def outL (itt : Nat) (stat cmd : Int) : List Nat := [0, itt, stat.toNat, cmd.toNat, ((cmd + 31) % 4294967296).toNat, 0, 0]
def txtL (itt ttt : Nat) (stat cmd : Int) : List Nat := [0, itt, ttt, stat.toNat, cmd.toNat, ((cmd + 31) % 4294967296).toNat]
section
variable (stat cmd : Int) (hs0 : 0 ≤ stat) (hs1 : stat ≤ 4294967295) (hc0 : 0 ≤ cmd) (hc1 : cmd ≤ 4294967295)
include hs0 hs1 hc0 hc1
theorem make_rej (reason : Int) (h0 : 0 ≤ reason) (h1 : reason ≤ 255) : makeH 63 128 ([nmReason, nmITT] ++ tailN) ([reason.toNat, 4294967295] ++ tailV stat cmd) = (0, -1, rejL reason stat cmd) := by
  refine makeH_ok 63 128 _ _ _ _ (by rfl) (by rfl) (rightH_ok _ _ _ _ (by rfl) (by decide +kernel) (by rfl) ?_)
  simp only [rejL, firstBad]
  repeat' (first | rfl | (rw [if_neg (by omega)]))
theorem make_nop (lun itt : Nat) (h0 : lun < 18446744073709551616) (h1 : itt < 4294967296) : makeH 32 128 ([nmLUN, nmITT, nmTTT] ++ tailN) ([lun, itt, 4294967295] ++ tailV stat cmd) = (0, -1, nopL lun itt stat cmd) := by
  refine makeH_ok 32 128 _ _ _ _ (by rfl) (by rfl) (rightH_ok _ _ _ _ (by rfl) (by decide +kernel) (by rfl) ?_)
  simp only [nopL, firstBad]
  repeat' (first | rfl | (rw [if_neg (by omega)]))
theorem make_out (itt : Nat) (h1 : itt < 4294967296) : makeH 38 128 ([nmITT] ++ tailN) ([itt] ++ tailV stat cmd) = (0, -1, outL itt stat cmd) := by
  refine makeH_ok 38 128 _ _ _ _ (by rfl) (by rfl) (rightH_ok _ _ _ _ (by rfl) (by decide +kernel) (by rfl) ?_)
  simp only [outL, firstBad]
  repeat' (first | rfl | (rw [if_neg (by omega)]))
theorem make_txt (flags : Int) (hf : flags = 0 ∨ flags = 64 ∨ flags = 128) (itt ttt : Nat) (h1 : itt < 4294967296) (h2 : ttt < 4294967296) : makeH 36 flags ([nmITT, nmTTT] ++ tailN) ([itt, ttt] ++ tailV stat cmd) = (0, -1, txtL itt ttt stat cmd) := by
  refine makeH_ok 36 flags _ _ _ _ (by rfl) (by rfl) (rightH_ok _ _ _ _ (by rfl) (by rcases hf with rfl | rfl | rfl <;> decide +kernel) (by rfl) ?_)
  simp only [txtL, firstBad]
  repeat' (first | rfl | (rw [if_neg (by omega)]))
end
theorem say_rej (reason stat cmd : Int) : (fieldsOf 63).map (fun f => tailG (setN (setN (fun _ => 0) nmReason reason.toNat) nmITT 4294967295) stat cmd f.name) = rejL reason stat cmd := by rfl
theorem say_nop (lun itt : Nat) (stat cmd : Int) : (fieldsOf 32).map (fun f => tailG (setN (setN (setN (fun _ => 0) nmLUN lun) nmITT itt) nmTTT 4294967295) stat cmd f.name) = nopL lun itt stat cmd := by rfl
theorem say_out (itt : Nat) (stat cmd : Int) : (fieldsOf 38).map (fun f => tailG (setN (fun _ => 0) nmITT itt) stat cmd f.name) = outL itt stat cmd := by rfl
theorem say_txt (itt ttt : Nat) (stat cmd : Int) : (fieldsOf 36).map (fun f => tailG (setN (setN (fun _ => 0) nmITT itt) nmTTT ttt) stat cmd f.name) = txtL itt ttt stat cmd := by rfl
end Go.Proofs.YtbimlijhgeajjaaGreatDoor

namespace Go.Proofs.YtbimlijhgeajjaaGreatDoor
open Go.RowKit
set_option linter.unusedVariables false
def beforeB (a b : Int) : Bool := decide (¬ a = b ∧ (b - a) % 4294967296 < 2147483648)
def withinB (n a b : Int) : Bool := decide ((n - a) % 4294967296 ≤ (b - a) % 4294967296 ∧ ¬ (b + 1) % 4294967296 = a)

theorem after_any (a n : Int) (w : World) (ha : 0 ≤ a) (ha2 : a ≤ 4294967295)  :
    Calls Tryz.prog 81 #[.int .u32 a, .int .i64 n] w fun e w' => e = .returned (.int .u32 ((a + n) % 4294967296)) ∧ w = w' := by
  go_enter Tryz.func81, Tryz.ntmps81
  go_wp2
  all_goals
    go_ret
    refine ⟨ret_int ?_, rfl⟩
    try omega
theorem tmod_cases (n m : Int) (hm : 0 < m) : (0 ≤ n ∧ n.tmod m = n % m) ∨ (n < 0 ∧ n.tmod m = -((-n) % m)) := by
  by_cases h : 0 ≤ n
  · exact .inl ⟨h, Int.tmod_eq_emod_of_nonneg h⟩
  · refine .inr ⟨by omega, ?_⟩
    rw [← Int.tmod_eq_emod_of_nonneg (a := -n) (by omega), Int.neg_tmod, Int.neg_neg]
theorem after_arith (a n : Int) (ha : 0 ≤ a) (ha2 : a ≤ 4294967295) :
    (wrap64 ((wrap64 (a + n.tmod 4294967296)).tmod 4294967296 + 4294967296)).tmod 4294967296 % 4294967296 = (a + n) % 4294967296 := by
  have h1 := tmod_cases n 4294967296 (by omega)
  have e1 : wrap64 (a + n.tmod 4294967296) = a + n.tmod 4294967296 := (by unfold wrap64; omega)
  rw [e1]
  have h2 := tmod_cases (a + n.tmod 4294967296) 4294967296 (by omega)
  have e2 : wrap64 ((a + n.tmod 4294967296).tmod 4294967296 + 4294967296) = (a + n.tmod 4294967296).tmod 4294967296 + 4294967296 := (by unfold wrap64; omega)
  rw [e2]
  have h3 := tmod_cases ((a + n.tmod 4294967296).tmod 4294967296 + 4294967296) 4294967296 (by omega)
  omega
theorem rafter_any (a n : Int) (w : World) (ha : 0 ≤ a) (ha2 : a ≤ 4294967295) (hn : -9223372036854775808 ≤ n) (hn2 : n ≤ 9223372036854775807) :
    Calls Tryz.prog 79 #[.int .u32 a, .int .i64 n] w fun e w' => e = .returned (.int .u32 ((a + n) % 4294967296)) ∧ w = w' := by
  go_enter Tryz.func79, Tryz.ntmps79
  go_wp2
  go_ret
  exact ⟨ret_int (after_arith a n ha ha2), rfl⟩
end Go.Proofs.YtbimlijhgeajjaaGreatDoor

namespace Go.Proofs.YtbimlijhgeajjaaGreatDoor
open Go Go.RowKit
set_option linter.unusedVariables false
set_option linter.unusedSectionVars false
set_option linter.unusedSimpArgs false
/-- all old blocks but some stand -/
structure KeptS (S : Nat → Prop) (a w : World) : Prop where
  os : w.os = a.os
  tape : w.tape = a.tape
  output : w.output = a.output
  size : a.heap.size ≤ w.heap.size
  block : ∀ k, k < a.heap.size → ¬ S k → w.heap[k]? = a.heap[k]?
theorem KeptS.refl (S : Nat → Prop) (a : World) : KeptS S a a := ⟨rfl, rfl, rfl, Nat.le_refl _, fun _ _ _ => rfl⟩
theorem KeptS.below {S : Nat → Prop} {a w w' : World} (h : KeptS S a w) (hb : Below w.heap.size w w') : KeptS S a w' :=
  ⟨hb.os.trans h.os, hb.tape.trans h.tape, hb.output.trans h.output, Nat.le_trans h.size hb.size, fun k hk hn => (hb.block k (Nat.lt_of_lt_of_le hk h.size)).trans (h.block k hk hn)⟩
theorem KeptS.alloc {S : Nat → Prop} {a w : World} (h : KeptS S a w) (o : Obj) : KeptS S a (w.alloc o) := h.below ((Below.refl _ _).alloc (Nat.le_refl _) _)
theorem KeptS.drew {S : Nat → Prop} {a w : World} (h : KeptS S a w) : KeptS S a w.drew := h.below (Below.refl _ _).drew
theorem KeptS.only {S : Nat → Prop} {a w w' : World} {r : Option Nat} (h : KeptS S a w) (hg : w.grownBy w' r) (hr : ∀ g, r = some g → S g ∨ a.heap.size ≤ g) : KeptS S a w' :=
  ⟨hg.os.trans h.os, hg.tape.trans h.tape, hg.output.trans h.output, Nat.le_trans h.size hg.size, fun k hk hn => (hg.block k (Nat.lt_of_lt_of_le hk h.size) (by
    intro e
    rcases hr k e.symm with h1 | h1
    · exact hn h1
    · omega)).trans (h.block k hk hn)⟩
theorem KeptS.set {S : Nat → Prop} {a w : World} (h : KeptS S a w) (p : Addr) (u : Value) (hp : S p.block ∨ a.heap.size ≤ p.block) : KeptS S a (w.setCell p u) :=
  ⟨h.os, h.tape, h.output, by simpa [World.setCell] using h.size, fun k hk hn => (Below.heap_setCell w p u k (by
    rintro rfl
    rcases hp with h1 | h1
    · exact hn h1
    · omega)).trans (h.block k hk hn)⟩
theorem KeptS.cell {S : Nat → Prop} {a w : World} (h : KeptS S a w) {b o : Nat} {u : Value} (hc : a.cell? ⟨b, o, none⟩ = some u) (hn : ¬ S b) : w.cell? ⟨b, o, none⟩ = some u :=
  (World.cell?_of_block (a := ⟨b, o, none⟩) (h.block b (block_lt_of_cell hc) hn)).trans hc
theorem KeptS.blk {S : Nat → Prop} {a w : World} (h : KeptS S a w) {b : Nat} {T : TypeId} {cs : Array Value} (hc : Blk a b T cs) (hn : ¬ S b) : Blk w b T cs := (h.block b hc.lt hn).trans hc
theorem KeptS.toBelow {S : Nat → Prop} {a w : World} (h : KeptS S a w) {B : Nat} (hS : ∀ k, S k → B ≤ k) (hB : B ≤ a.heap.size) : Below B a w :=
  ⟨h.os, h.tape, h.output, h.size, fun k hk => h.block k (by omega) (fun hs => by have := hS k hs; omega)⟩
theorem KeptS.mono {S T : Nat → Prop} {a w : World} (h : KeptS S a w) (hst : ∀ k, S k → T k) : KeptS T a w := ⟨h.os, h.tape, h.output, h.size, fun k hk hn => h.block k hk (fun hs => hn (hst k hs))⟩
theorem KeptS.trans {S : Nat → Prop} {a b c : World} (h : KeptS S a b) {T : Nat → Prop} (k : KeptS T b c) (hT : ∀ i, T i → S i ∨ a.heap.size ≤ i) : KeptS S a c :=
  ⟨k.os.trans h.os, k.tape.trans h.tape, k.output.trans h.output, Nat.le_trans h.size k.size, fun i hi hn => (k.block i (Nat.lt_of_lt_of_le hi h.size) (fun ht => by
    rcases hT i ht with h1 | h1
    · exact hn h1
    · omega)).trans (h.block i hi hn)⟩
/-- what reads as pairs lies in none of some blocks -/
def FarO (v : Value) (l : PL) (S : Nat → Prop) : Prop := l.length = 0 ∨ ∃ b o n c, v = .slice (some ⟨b, o, none⟩) n c ∧ ¬ S b
theorem PSl.kept {S : Nat → Prop} {a w : World} {v : Value} {l : PL} (h : PSl a v l) (hf : FarO v l S) (hk : KeptS S a w) : PSl w v l := by
  obtain ⟨x, cap, rfl, hl, hc⟩ := h
  refine ⟨x, cap, rfl, hl, ?_⟩
  rcases hf with h0 | ⟨b', o', n', c', hv, hn⟩
  · exact .inl h0
  · cases hv
    rcases hc with h0 | ⟨b, o, hx, hd⟩
    · exact .inl h0
    · cases hx
      exact .inr ⟨b', o', rfl, fun j u hu => hk.cell (hd j u hu) hn⟩
/-- what lies in old memory lies in no block that is new -/
theorem FarO.new {v : Value} {l : PL} {w : World} (h : PSl w v l) {S : Nat → Prop} (hS : ∀ k, S k → w.heap.size ≤ k) : FarO v l S := by
  obtain ⟨x, cap, rfl, hl, hc⟩ := h
  rcases hc with h0 | ⟨b, o, rfl, hd⟩
  · exact .inl h0
  · by_cases hz : l.length = 0
    · exact .inl hz
    · refine .inr ⟨b, o, _, _, rfl, fun hs => ?_⟩
      have h1 := hS b hs
      have hlt : 0 < (pairCells l).length := by rw [pairCells_length]; omega
      have h2 : b < w.heap.size := block_lt_of_cell (hd 0 _ (List.getElem?_eq_getElem hlt))
      omega
theorem FarO.lt {v : Value} {l : PL} {w : World} (h : PSl w v l) : l.length = 0 ∨ ∃ b o n c, v = .slice (some ⟨b, o, none⟩) n c ∧ b < w.heap.size := by
  obtain ⟨x, cap, rfl, hl, hc⟩ := h
  rcases hc with h0 | ⟨b, o, rfl, hd⟩
  · exact .inl h0
  · by_cases hz : l.length = 0
    · exact .inl hz
    · have hlt : 0 < (pairCells l).length := by rw [pairCells_length]; omega
      exact .inr ⟨b, o, _, _, rfl, block_lt_of_cell (hd 0 _ (List.getElem?_eq_getElem hlt))⟩
theorem FarO.mono {v : Value} {l : PL} {S T : Nat → Prop} (h : FarO v l S) (hst : ∀ k, T k → S k) : FarO v l T := by
  rcases h with h0 | ⟨b, o, n, c, hv, hn⟩
  · exact .inl h0
  · exact .inr ⟨b, o, n, c, hv, fun ht => hn (hst b ht)⟩
/-- a row that is not written -/
theorem owns_only {w w' : World} {base : Nat} {e : TypeId} {size n : Nat} {v : Value} {xs : List Value} (h : w.ownsRow base e size v n xs) {r : Option Nat} (hg : w.grownBy w' r) (hr : ∀ g, v.ownBlock = some g → r ≠ some g) : w'.ownsRow base e size v n xs :=
  h.kept (row := r) hg (by
    cases hv : v.ownBlock with
    | none => exact .inl rfl
    | some g => exact .inr (fun e => hr g hv e.symm))
theorem owns_setk {w : World} {base : Nat} {e : TypeId} {size n : Nat} {v : Value} {xs : List Value} (h : w.ownsRow base e size v n xs) (g i : Nat) (u : Value) (hr : v.ownBlock ≠ some g) : (w.setCell ⟨g, i, none⟩ u).ownsRow base e size v n xs :=
  owns_only h (only_set (only_refl w (some g)) i u) (fun k hk e => hr (by rw [hk]; exact e.symm))
theorem list_append_at {P : Program} {ops : Array Oper} {rest : List Oper} {o : Oper} {a : Act} {w : World} {Q : Exit → Act → World → Prop}
    (hgd : o.guard = none) (s x : Operand) (t : TypeId) (ho : o.op = .call { callee := .builtin .append, args := #[s, x], argTypes := #[t, t] })
    (base : Nat) (e : TypeId) (z : Value) (size bytes : Nat) (ht : P.underlying t = some (.slice e)) (hi : (P.info? e).map (fun i => (i.zero, i.size, i.bytes)) = some (some z, size, bytes))
    (hzs : z.cells.size = size) (hsz : 0 < size)
    (v : Value) (n : Nat) (xs : List Value) (hs : a.eval s = v) (hown : w.ownsRow base e size v n xs)
    (ad : Addr) (m c : Nat) (news : List Value) (hx : a.eval x = .slice (some ad) m c) (hl : news.length = m * size) (hnews : ∀ j u, news[j]? = some u → w.cell? (ad.add j) = some u) (h1 : ∀ u ∈ news, u.oneCell' = true)
    (h63 : n + m ≤ maxLen) (hbytes : (n + m) * bytes ≤ 140737488355328) (hbase : base ≤ w.heap.size)
    (h : ∀ v' w', w'.ownsRow base e size v' (n + m) (xs ++ news) → w.grownBy w' v.ownBlock → (v'.ownBlock = v.ownBlock ∨ v'.ownBlock = some w.heap.size) → wpList P ops Q rest (a.put o.dst v') w') : wpList P ops Q (o :: rest) a w := by
  obtain ⟨i, hi1, hi2, hi3, hi4⟩ := info_parts hi
  exact wpList_append_own_at w hgd s x t ho base e i z size bytes ht hi1 hi2 hi3 hi4 hzs hsz v n xs hs hown ad m c news hx hl hnews h1 h63 hbytes hbase fun v' w' h2 h3 _ h5 => h v' w' h2 h3 h5
theorem step_append_at {P : Program} {ops : Array Oper} {o : Oper} {a : Act} {w : World} {K : Act → World → Prop} {Q : Exit → Act → World → Prop} {E : Prop}
    (hgd : o.guard = none) (s x : Operand) (t : TypeId) (ho : o.op = .call { callee := .builtin .append, args := #[s, x], argTypes := #[t, t] })
    (base : Nat) (e : TypeId) (z : Value) (size bytes : Nat) (ht : P.underlying t = some (.slice e)) (hi : (P.info? e).map (fun i => (i.zero, i.size, i.bytes)) = some (some z, size, bytes))
    (hzs : z.cells.size = size) (hsz : 0 < size)
    (v : Value) (n : Nat) (xs : List Value) (hs : a.eval s = v) (hown : w.ownsRow base e size v n xs)
    (ad : Addr) (m c : Nat) (news : List Value) (hx : a.eval x = .slice (some ad) m c) (hl : news.length = m * size) (hnews : ∀ j u, news[j]? = some u → w.cell? (ad.add j) = some u) (h1 : ∀ u ∈ news, u.oneCell' = true)
    (h63 : n + m ≤ maxLen) (hbytes : (n + m) * bytes ≤ 140737488355328) (hbase : base ≤ w.heap.size)
    (h : ∀ v' w', w'.ownsRow base e size v' (n + m) (xs ++ news) → w.grownBy w' v.ownBlock → (v'.ownBlock = v.ownBlock ∨ v'.ownBlock = some w.heap.size) → K (a.put o.dst v') w') :
    if Region.wanted o (yielded ops a.tmps) = true then Oper.wp P o a w K Q else E := by
  obtain ⟨i, hi1, hi2, hi3, hi4⟩ := info_parts hi
  rw [if_pos (by simp [Region.wanted, hgd])]
  obtain ⟨v', w', hr, h2, h3, h4, h5⟩ := run_append_own_at (P := P) w base t o.type e i z size bytes ht hi1 hi2 hi3 hi4 hzs hsz v n xs hown ad m c news hl hnews h1 h63 hbytes hbase
  unfold Oper.wp execOp
  simp only [ho, resolve, invoke, builtin, Sem.run_bind, Sem.run_pure, Result.andThen_ok, List.map_toArray, List.map_cons, List.map_nil, hs, hx, hr]
  exact h v' w' h2 h3 h5
end Go.Proofs.YtbimlijhgeajjaaGreatDoor

namespace Go.Proofs.YtbimlijhgeajjaaGreatDoor
open Go.RowKit
set_option linter.unusedVariables false
set_option maxRecDepth 100000
def padN (n : Nat) : Nat := (4 - n % 4) % 4
def padI (n : Int) : Int := if n < 0 then 0 else (4 - n % 4) % 4
theorem padN_lt (n : Nat) : padN n < 4 := by unfold padN; omega
theorem padI_nat (n : Nat) : padI n = padN n := by unfold padI padN; rw [if_neg (by omega)]; omega
theorem pad_any (n : Int) (w : World) (h0 : -9223372036854775808 ≤ n) (h1 : n ≤ 9223372036854775807) :
    Calls Tryz.prog 136 #[.int .i64 n] w fun e w' => e = .returned (.int .i64 (padI n)) ∧ w = w' := by
  by_cases hn : n < 0
  · go_enter Tryz.func136, Tryz.ntmps136
    go_wp2
    go_ret
    exact ⟨ret_int (by unfold padI; rw [if_pos hn]), rfl⟩
  · go_enter Tryz.func136, Tryz.ntmps136
    go_wp2
    go_ret
    refine ⟨ret_int ?_, rfl⟩
    rw [show (3 : Int) = ((3 : Nat) : Int) from rfl, i64_mask (-n) 3 2 rfl (by omega)]
    unfold padI; rw [if_neg (by omega)]; omega
theorem pad_nat (n : Nat) (w : World) (h1 : n ≤ 9223372036854775807) :
    Calls Tryz.prog 136 #[.int .i64 n] w fun e w' => e = .returned (.int .i64 (padN n : Nat)) ∧ w = w' := by
  have := pad_any n w (by omega) (by omega)
  rwa [padI_nat] at this
def padded (l : List UInt8) : List UInt8 := l ++ List.replicate (padN l.length) 0
theorem rpadded_any (l : List UInt8) (w : World) (h1 : l.length ≤ 1000000) :
    Calls Tryz.prog 129 #[.string (bs l)] w fun e w' => e = .returned (.string (bs (padded l))) ∧ w = w' := by
  have hp := padN_lt l.length
  have hz : (⟨#[0]⟩ : ByteArray) = bs [0] := rfl
  have e : padded l = l ++ List.replicate (padN l.length) 0 := rfl
  rw [e]
  clear e
  have hm : ∀ k, k ≤ padN l.length → ((((l.length : Int) + (k : Int)) % 4 != 0) = true ↔ k < padN l.length) := by
    intro k hk
    unfold padN at *
    rw [bne_iff_ne]; omega
  have Hm := hid hm; clear hm
  generalize padN l.length = p at *
  go_enter Tryz.func129, Tryz.ntmps129
  go_wp2
  go_loop [0] (fun s => ∃ k : Nat, k ≤ p ∧ s = .string (bs (l ++ List.replicate k 0))) (fun s => l.length + p - strLen s)
  case atStart => exact ⟨0, by omega, by simp⟩
  case round =>
    obtain ⟨k, hk, rfl⟩ := hrel
    have hlen : (l ++ List.replicate k (0 : UInt8)).length = l.length + k := by simp
    have hrs : l ++ List.replicate (k + 1) (0 : UInt8) = (l ++ List.replicate k 0) ++ [0] := by rw [List.replicate_succ', List.append_assoc]
    have Hrs := hid hrs; clear hrs
    by_cases hlt : k < p
    · have hb := (Hm.out k hk).2 hlt
      generalize l ++ List.replicate k (0 : UInt8) = x at *
      go_wp2
      go_round
      case rel => exact ⟨k + 1, by omega, by rw [Hrs.out]⟩
      case measure => simp [strLen, bs_size]; omega
    · have hb : (((l.length : Int) + (k : Int)) % 4 != 0) = false := by
        rw [Bool.eq_false_iff]; exact fun h => hlt ((Hm.out k hk).1 h)
      obtain rfl : k = p := by omega
      generalize hx : l ++ List.replicate k (0 : UInt8) = x at *
      have Hx := hid hx; clear hx
      go_wp2
      go_ret
      exact ⟨by rw [Hx.out]; rfl, rfl⟩
/-- what is wrong with a text of n bytes ahead of its Pad: 0 nothing, 2 n below 0, 7 fewer bytes, 3 a byte of the Pad -/
def unpadE (l : List UInt8) (n : Int) : Nat :=
  if n < 0 then 2 else if (l.length : Int) < n ∨ (l.length : Int) < n + padI n then 7 else if (l.drop n.toNat).take (padN n.toNat) = List.replicate (padN n.toNat) 0 then 0 else 3
theorem padded_take (l : List UInt8) (n : Nat) (h : n + padN n ≤ l.length) : padded (l.take n) = l.take (n + padN n) ↔ (l.drop n).take (padN n) = List.replicate (padN n) 0 := by
  have hl : (l.take n).length = n := by simp; omega
  unfold padded
  rw [hl, List.take_add]
  constructor
  · intro h; exact (List.append_cancel_left h).symm
  · intro h; rw [h]
theorem unpadE_neg (l : List UInt8) (n : Int) (h : n < 0) : unpadE l n = 2 := by unfold unpadE; rw [if_pos h]
theorem unpadE_few (l : List UInt8) (k : Nat) (h : l.length < k + padN k) : unpadE l k = 7 := by
  unfold unpadE; rw [if_neg (by omega), if_pos (by rw [padI_nat]; omega)]
theorem unpadE_ok (l : List UInt8) (k : Nat) (h : k + padN k ≤ l.length) (hz : (l.drop k).take (padN k) = List.replicate (padN k) 0) : unpadE l k = 0 := by
  unfold unpadE; rw [if_neg (by omega), if_neg (by rw [padI_nat]; omega), if_pos (by simpa using hz)]
theorem unpadE_bad (l : List UInt8) (k : Nat) (h : k + padN k ≤ l.length) (hz : ¬ (l.drop k).take (padN k) = List.replicate (padN k) 0) : unpadE l k = 3 := by
  unfold unpadE; rw [if_neg (by omega), if_neg (by rw [padI_nat]; omega), if_neg (by simpa using hz)]
def unpadV (l : List UInt8) (n : Int) : Value := .tuple (if unpadE l n = 0 then #[.string (bs (l.take n.toNat)), .int .i64 (n + padI n), .nilIface] else #[.string (bs []), .int .i64 0, .iface 32 (.int .i64 (unpadE l n : Nat))])
end Go.Proofs.YtbimlijhgeajjaaGreatDoor

namespace Go.Proofs.YtbimlijhgeajjaaGreatDoor
open Go.RowKit
set_option linter.unusedVariables false
set_option maxRecDepth 100000
/-- what is wrong with the headers that are left, from the i-th on, behind so many bytes (0: nothing), and where -/
def ahsW (I : Nat → Int × List UInt8) : Nat → Nat → Nat → Nat × Int
  | 0, _, _ => (0, -1)
  | r + 1, i, n => if (I i).1 < 0 ∨ 255 < (I i).1 then (2, i) else if 1020 < (I i).2.length ∨ 1020 < n + 3 + (I i).2.length + padN (3 + (I i).2.length) then (4, i) else ahsW I r (i + 1) (n + (3 + (I i).2.length + padN (3 + (I i).2.length)))
/-- headers as bytes -/
def ahsB (I : Nat → Int × List UInt8) : Nat → Nat → List UInt8 → List UInt8
  | 0, _, out => out
  | r + 1, i, out => ahsB I r (i + 1) (out ++ padded (be (I i).2.length 2 ++ [UInt8.ofNat (I i).1.toNat] ++ (I i).2))
/-- a slice of headers that is handed in -/
def AhsIn (w : World) (v : Value) (n : Nat) (I : Nat → Int × List UInt8) : Prop :=
  n ≤ maxLen ∧ ((v = .slice none 0 0 ∧ n = 0) ∨ ∃ a cap, v = .slice (some a) n cap) ∧
    ∀ a m cap, v = .slice (some a) m cap → ∀ k, k < n → w.cell? (a.add (k * 2)) = some (.int .i64 (I k).1) ∧ w.cell? (a.add (k * 2 + 1)) = some (.string (bs (I k).2)) ∧ -9223372036854775808 ≤ (I k).1 ∧ (I k).1 ≤ 9223372036854775807 ∧ (I k).2.length ≤ maxLen
theorem AhsIn.below {w w' : World} {v : Value} {n : Nat} {I : Nat → Int × List UInt8} (h : AhsIn w v n I) (hb : Below w.heap.size w w') : AhsIn w' v n I := by
  obtain ⟨h1, h2, h3⟩ := h
  refine ⟨h1, h2, fun a m cap e k hk => ?_⟩
  obtain ⟨c0, c1, hr⟩ := h3 a m cap e k hk
  exact ⟨(hb.cell (block_lt_of_cell c0)).trans c0, (hb.cell (block_lt_of_cell c1)).trans c1, hr⟩
def RAhsW (I : Nat → Int × List UInt8) (n : Nat) (w : World) (sum i : Value) (wr : World) : Prop :=
  ∃ k m : Nat, k ≤ n ∧ m ≤ 1020 ∧ i = .int .i64 (k : Nat) ∧ sum = .int .i64 (m : Nat) ∧ ahsW I n 0 0 = ahsW I (n - k) k m ∧ Below w.heap.size w wr
theorem ahsRight_any (v : Value) (n : Nat) (I : Nat → Int × List UInt8) (w : World) (h : AhsIn w v n I) :
    Calls Tryz.prog 101 #[v] w fun e w' => (∃ er, e = .returned er ∧ ErrIs w' er (ahsW I n 0 0).1 (ahsW I n 0 0).2) ∧ Below w.heap.size w w' := by
  obtain ⟨hn, hv, hcell⟩ := h
  unfold maxLen at hn
  rcases hv with ⟨rfl, rfl⟩ | ⟨a, cap, rfl⟩
  · go_enter Tryz.func101, Tryz.ntmps101
    go_wp2
    refine wp_loop_rounds 1 ?_
    rw [rounds_succ]
    go_wp2
    go_ret
    exact ⟨⟨.nilIface, rfl, .nil⟩, Below.refl _ _⟩
  have Hcell := hid (hcell a n cap rfl); clear hcell
  go_enter Tryz.func101, Tryz.ntmps101
  go_wp2
  go_loopw [3, 8] (fun sum i wr => RAhsW I n w sum i wr) (fun _ i _ => n - (intOf i).toNat)
  case atStart => exact ⟨0, 0, by omega, by omega, rfl, rfl, rfl, Below.refl _ _⟩
  case round =>
    obtain ⟨k, m, hk, hm, rfl, rfl, heq, hb⟩ := hrel
    have hB := hb.size
    by_cases hlt : k < n
    · obtain ⟨c0, c1, hr0, hr1, hd⟩ := Hcell.out k hlt
      have g0 : wr.cell? (a.add (k * 2)) = _ := (hb.cell (block_lt_of_cell c0)).trans c0
      have e1 : (⟨(a.add (k * 2)).block, (a.add (k * 2)).off + 1, none⟩ : Addr) = a.add (k * 2 + 1) := by
        unfold Addr.add; rcases Nat.eq_zero_or_pos k with h | h
        · subst h; simp
        · rw [if_neg (by omega), if_neg (by omega)]; simp [Nat.add_assoc]
      have g1 : wr.cell? ⟨(a.add (k * 2)).block, (a.add (k * 2)).off + 1, none⟩ = _ := (congrArg wr.cell? e1).trans ((hb.cell (block_lt_of_cell c1)).trans c1)
      clear e1
      obtain ⟨r, hr⟩ : ∃ r, n - k = r + 1 := ⟨n - k - 1, by omega⟩
      rw [hr, ahsW] at heq
      clear c0 c1
      generalize I k = x at *
      obtain ⟨kd, d⟩ := x
      simp only at *
      unfold maxLen at hd
      have Heq := hid heq; clear heq
      by_cases hkd : kd < 0 ∨ 255 < kd
      · rcases hkd with hkd | hkd
        · go_wp2
          go_ret
          refine ⟨⟨_, rfl, ?_⟩, (hb.alloc hB _).alloc (by simp; omega) _⟩
          rw [Heq.out, if_pos (.inl hkd)]; exact .at_ 2 (by omega) k (wr.heap.size + 1) (by simp) (by simp)
        · have hkd' : ¬ kd < 0 := by omega
          go_wp2
          go_ret
          refine ⟨⟨_, rfl, ?_⟩, (hb.alloc hB _).alloc (by simp; omega) _⟩
          rw [Heq.out, if_pos (.inr hkd)]; exact .at_ 2 (by omega) k (wr.heap.size + 1) (by simp) (by simp)
      · have hkd0 : ¬ kd < 0 := by omega
        have hkd1 : ¬ 255 < kd := by omega
        by_cases hd1 : 1020 < d.length
        · have hdb : decide ((1020 : Int) < (d.length : Int)) = true := decide_eq_true (by omega)
          go_wp2
          go_quiet (fail)
          have hb2 := below_drewN (hb.alloc hB (.cells #[.int .i64 kd, .string (bs d)] 120 (0, 0))) nq
          have hB2 := hb2.size
          generalize World.drewN _ nq = w2 at *
          go_wp2
          go_ret
          refine ⟨⟨_, rfl, ?_⟩, hb2.alloc hB2 _⟩
          rw [Heq.out, if_neg (by omega), if_pos (.inl hd1)]; exact .at_ 4 (by omega) k w2.heap.size (by simp) (by simp)
        · have c1 : ∀ w, Hid (Calls Tryz.prog 136 #[.int .i64 (3 + (d.length : Int))] w fun e w' => e = .returned (.int .i64 (padN (3 + d.length) : Nat)) ∧ w' = w) := by
            intro w
            have := pad_nat (3 + d.length) w (by omega)
            rw [show ((3 + d.length : Nat) : Int) = 3 + (d.length : Int) from by omega] at this
            exact hid (this.mono fun _ _ ⟨h1, h2⟩ => ⟨h1, h2.symm⟩)
          have hp4 := padN_lt (3 + d.length)
          generalize padN (3 + d.length) = p at *
          have hdb : decide ((1020 : Int) < (d.length : Int)) = false := decide_eq_false (by omega)
          have s1 : IntKind.i64.wrap ((m : Int) + 3) = (m : Int) + 3 := by rw [IntKind.wrap_i64]; omega
          have s2 : IntKind.i64.wrap ((m : Int) + 3 + d.length) = (m : Int) + 3 + d.length := by rw [IntKind.wrap_i64]; omega
          have s3 : IntKind.i64.wrap ((m : Int) + 3 + d.length + p) = (m : Int) + 3 + d.length + p := by rw [IntKind.wrap_i64]; omega
          have s4 : IntKind.i64.wrap (3 + (d.length : Int)) = 3 + (d.length : Int) := by rw [IntKind.wrap_i64]; omega
          go_wp2
          go_quiet ((go_at_call 136; exact Calls.quiet_of_same (c1 _).out))
          have hb2 := below_drewN (hb.alloc hB (.cells #[.int .i64 kd, .string (bs d)] 120 (0, 0))) nq
          have hB2 := hb2.size
          by_cases hlim : 1020 < m + 3 + d.length + p
          · have hlb : decide ((1020 : Int) < (m : Int) + 3 + d.length + p) = true := decide_eq_true (by omega)
            generalize World.drewN _ nq = w2 at *
            go_wp2
            go_ret
            refine ⟨⟨_, rfl, ?_⟩, hb2.alloc hB2 _⟩
            rw [Heq.out, if_neg (by omega), if_pos (.inr hlim)]; exact .at_ 4 (by omega) k w2.heap.size (by simp) (by simp)
          · have hlb : decide ((1020 : Int) < (m : Int) + 3 + d.length + p) = false := decide_eq_false (by omega)
            have hbk := heap_alloc_new wr (.cells #[.int .i64 kd, .string (bs d)] 120 (0, 0))
            have hc1 : (World.drewN (wr.alloc (.cells #[.int .i64 kd, .string (bs d)] 120 (0, 0))) nq).cell? ⟨wr.heap.size, 1, none⟩ = some (.string (bs d)) := by rw [World.cell?_drewN, cell_of_row _ _ _ _ _ _ hbk]; rfl
            clear hbk
            generalize World.drewN _ nq = w2 at *
            have s5 : IntKind.i64.wrap (3 + (d.length : Int) + p) = 3 + (d.length : Int) + p := by rw [IntKind.wrap_i64]; omega
            have s6 : IntKind.i64.wrap ((m : Int) + (3 + (d.length : Int) + p)) = (m : Int) + (3 + (d.length : Int) + p) := by rw [IntKind.wrap_i64]; omega
            go_wp2
            go_quiet ((go_at_call 136; exact Calls.quiet_of_same (c1 _).out))
            have hb3 := below_drewN hb2 nq
            go_wp2
            go_roundw
            case rel => exact ⟨k + 1, m + (3 + d.length + p), by omega, by omega, by go_num, by go_num, by rw [Heq.out, if_neg (by omega), if_neg (by omega)]; congr 1; omega, hb3⟩
            case measure => simp [intOf]; omega
    · obtain rfl : k = n := by omega
      go_wp2
      go_ret
      refine ⟨⟨_, rfl, ?_⟩, hb⟩
      rw [heq, Nat.sub_self]; exact .nil
end Go.Proofs.YtbimlijhgeajjaaGreatDoor
