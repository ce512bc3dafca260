/- What each name has: a map of strings. -/
import Derived.Test.YtbimlijhgeajjaaGreatDoorSeen
import Derived.Test.YtbimlijhgeajjaaGreatDoorHeadRdPure
import Derived.Test.YtbimlijhgeajjaaGreatDoorChecked
import Derived.StringKeys
set_option linter.unusedSectionVars false
set_option linter.unusedSimpArgs false
set_option linter.unusedVariables false
namespace Go.Proofs.YtbimlijhgeajjaaGreatDoor
open Go Go.RowKit Go.Maps
set_option linter.unusedVariables false
set_option linter.unusedSectionVars false
set_option linter.unusedSimpArgs false
theorem strLaw : Keyed Tryz.prog 9 := string_keyed Tryz.underlying9
theorem zeroU64 (w : World) : (zeroValue 114).run Tryz.prog w = .ok (.int .u64 0) w := by kernel_rfl
def nmF (g : List UInt8 → Nat) (v : Value) : Value := match v with | .string b => .int .u64 (g b.data.toList : Nat) | _ => .int .u64 0
abbrev NameM (w : World) (b n : Nat) (g : List UInt8 → Nat) : Prop := MapAs w Tryz.prog 9 114 (.lit (.int .u64 0)) b n (nmF g)
theorem elemU64 (x : Nat) (h : x ≤ 18446744073709551615) : ∃ p, plainElem (H := Unit) Tryz.prog 114 (.int .u64 (x : Int)) = some (.lit (.int .u64 (x : Int)), p) :=
  ⟨[], plainElem_int Tryz.underlying114 (WalkArith.wf_u64 (by omega))⟩
theorem strKey (s : List UInt8) (h : s.length ≤ 9223372036854775807) : keyOf Tryz.prog 9 (.string (bs s)) = some (.string s) := by
  have := WideMaps.keyOf_string_mk (P := Tryz.prog) Tryz.underlying9 (s := bs s) (by unfold maxLen; simpa [bs, ByteArray.size] using h)
  rw [this]; simp [bs]
theorem NameM.made (w : World) : NameM (w.alloc (.map #[] 0)) w.heap.size 0 (fun _ => 0) :=
  (MapAs.made w (.int .u64 0) _ (elemU64 0 (by omega))).fn fun v kl h => by cases v <;> rfl
theorem NameM.look {w : World} {b n : Nat} {g : List UInt8 → Nat} (h : NameM w b n g) (s : List UInt8) (hs : s.length ≤ 9223372036854775807) :
    (Instr.lookup 115 (.map (some b)) (.string (bs s)) false).run Tryz.prog w = .ok (.int .u64 (g s : Nat)) w := by
  have := MapAs.look h strLaw Tryz.underlying115 (zeroU64 w) (elemU64 0 (by omega)) (strKey s hs)
  rw [this]; simp [nmF, bs]
theorem NameM.put {w : World} {b n : Nat} {g : List UInt8 → Nat} (h : NameM w b n g) (hn : n < 1000000) (s : List UInt8) (hs : s.length ≤ 9223372036854775807) (x : Nat) (hx : x ≤ 18446744073709551615) :
    ∃ w', (Instr.mapUpdate 115 (.map (some b)) (.string (bs s)) (.int .u64 (x : Int))).run Tryz.prog w = .ok () w' ∧ NameM w' b (n + 1) (setN g s x) ∧ w.grownBy w' (some b) := by
  obtain ⟨w', hr, hf, hg⟩ := MapAs.put h strLaw Tryz.underlying115 (by unfold maxLen; omega) (strKey s hs) ⟨_, elemU64 x hx⟩
  refine ⟨w', hr, hf _ (by simp [nmF, setN, bs]) (fun v hv => ?_), hg⟩
  cases v <;> try rfl
  rename_i t
  simp only [nmF, setN]
  rw [if_neg]
  intro e
  apply hv
  rw [← e]
  cases t
  simp [bs]
end Go.Proofs.YtbimlijhgeajjaaGreatDoor
