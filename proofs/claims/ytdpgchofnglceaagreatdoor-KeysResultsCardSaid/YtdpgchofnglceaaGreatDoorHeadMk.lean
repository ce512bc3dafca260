/- The head that names and numbers make: by the program. -/
import Derived.Test.YtdpgchofnglceaaGreatDoorHeadWrPure
import Derived.Test.YtdpgchofnglceaaGreatDoorHeadRdBase
import Derived.Deep.RegionHeld
namespace Go.Proofs.YtdpgchofnglceaaGreatDoor
open Go Go.RowKit
set_option linter.unusedVariables false
set_option linter.unusedSectionVars false
set_option linter.unusedSimpArgs false
set_option maxRecDepth 100000
def strCells (ns : List (List UInt8)) : List Value := ns.map fun s => .string (bs s)
theorem strs_open {w : World} {v : Value} {ns : List (List UInt8)} (h : Sl w v 1 ns.length (strCells ns)) (hn : 0 < ns.length) :
    ∃ b o c, v = .slice (some ⟨b, o, none⟩) ns.length c ∧ b < w.heap.size ∧ ∀ (k : Nat) (s : List UInt8), ns[k]? = some s → w.cell? ⟨b, o + k, none⟩ = some (.string (bs s)) := by
  obtain ⟨a, c, rfl, hl, h | ⟨b, o, rfl, hc⟩⟩ := h
  · omega
  · have hk : ∀ (k : Nat) (s : List UInt8), ns[k]? = some s → w.cell? ⟨b, o + k, none⟩ = some (.string (bs s)) := fun k s hs => hc k _ (by rw [strCells, List.getElem?_map, hs]; rfl)
    exact ⟨b, o, c, rfl, World.block_lt_of_cell? w ⟨b, o + 0, none⟩ (hk 0 _ (List.getElem?_eq_getElem hn)), hk⟩
theorem make_u64 (n : Nat) (h : n ≤ 1000) (w : World) :
    (Instr.makeSlice 59 (.int .i64 (n : Int)) (.int .i64 (n : Int))).run Tryz.prog w = .ok (.slice (some ⟨w.heap.size, 0, none⟩) n n) (w.alloc (.cells (u64Cells (List.replicate n 0)).toArray 118)) := by
  obtain ⟨i, h1, h2, h3, h4⟩ := info_parts infoU64
  have := run_make (P := Tryz.prog) w 59 118 i (.int .u64 0) Tryz.underlying59 h1 h2 .i64 .i64 (n : Int) (n : Int) (by omega) (by omega) (by rw [h4]; omega) (by omega)
  rw [this, h3]
  simp [madeCells, u64Cells, Value.cells, List.map_replicate]
  congr 3
  apply Array.ext
  · simp
  · intro j h5 h6
    simp [Nat.mod_one]
theorem blk_sl {W : World} {V : Nat} {t : TypeId} {xs : List Nat} (h : Blk W V t (u64Cells xs).toArray) : Sl W (.slice (some ⟨V, 0, none⟩) xs.length xs.length) 1 xs.length (u64Cells xs) :=
  ⟨_, _, rfl, by simp [u64Cells], .inr ⟨V, 0, rfl, fun j u hu => by rw [Nat.zero_add, h.cell j]; simpa using hu⟩⟩
theorem blk_only {w w' : World} {h m : Nat} {t : TypeId} {cs : Array Value} (B : Blk w h t cs) (hg : w.grownBy w' (some m)) (hne : h ≠ m) : Blk w' h t cs :=
  (hg.block h B.lt (fun e => hne (Option.some.inj e))).trans B
def MakePost (op flags : Int) (R : Nat × Int × List Nat) (w : World) (e : Ending) (w' : World) : Prop :=
  ∃ v ev, e = .returned (.tuple #[headV (if R.1 = 0 then op else 0) false (if R.1 = 0 then flags else 0) v, ev]) ∧ ErrIs w' ev R.1 R.2.1 ∧ Sl w' v 1 R.2.2.length (u64Cells R.2.2) ∧ Below w.heap.size w w'
def RMk (fs : List FR) (vs : List Nat) (ns : List (List UInt8)) (V : Nat) (w5 : World) (i : Value) (wr : World) : Prop :=
  ∃ (k : Nat) (g : List UInt8 → Nat), k ≤ ns.length ∧ i = .int .i64 (k : Nat) ∧ mkG fs vs ns 0 (fun _ => 0) = mkG fs vs (ns.drop k) k g ∧ (∀ m, g m ≤ 18446744073709551615) ∧ Blk wr V 118 (u64Cells (fs.map fun f => g f.name)).toArray ∧ w5.grownBy wr (some V)
def RMi (fs : List FR) (n : List UInt8) (wo : World) (a i : Value) (wi : World) : Prop :=
  ∃ j : Nat, j ≤ fs.length ∧ i = .int .i64 (j : Nat) ∧ a = .int .i64 (atN fs n j) ∧ Below wo.heap.size wo wi
theorem set_vals (fs : List FR) (hd : (fs.map FR.name).Nodup) (g : List UInt8 → Nat) (n : List UInt8) (x p : Nat) (h : (fs[p]?.map FR.name) = some n) :
    (u64Cells (fs.map fun f => g f.name)).toArray.setIfInBounds p (.int .u64 (x : Int)) = (u64Cells (fs.map fun f => setN g n x f.name)).toArray := by
  rw [map_setN fs hd g n x p h, List.setIfInBounds_toArray]
  simp [u64Cells, List.map_set]
section
variable (op flags : Int) (nv vv : Value) (ns : List (List UInt8)) (vs : List Nat) (w : World) (h0 : -9223372036854775808 ≤ op) (h1 : op ≤ 9223372036854775807) (g0 : -9223372036854775808 ≤ flags) (g1 : flags ≤ 9223372036854775807)
  (hn : ns.length ≤ 60) (hm : vs.length ≤ 60) (hv : ∀ x ∈ vs, x ≤ 18446744073709551615) (hns : Sl w nv 1 ns.length (strCells ns)) (hvs : Sl w vv 1 vs.length (u64Cells vs)) (hT : AS w) (hP : PT w)
include h0 h1 g0 g1 hn hm hv hns hvs hT hP
end
end Go.Proofs.YtdpgchofnglceaaGreatDoor
