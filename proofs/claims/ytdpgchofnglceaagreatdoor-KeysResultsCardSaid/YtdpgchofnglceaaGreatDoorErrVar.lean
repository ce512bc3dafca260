/- strconv.ErrSyntax and strconv.ErrRange hold some error. -/
import Derived.Test.YtdpgchofnglceaaGreatDoorChecked
import Derived.Test.YtdpgchofnglceaaGreatDoorBase
import Derived.LaidLaws
import Derived.LaidSub
import Derived.LaidMore
import Derived.Lib.LaidTab
import GoSem.ClaimJoined
namespace Go.Proofs.YtdpgchofnglceaaGreatDoor
open Go Go.RowKit
set_option linter.unusedVariables false
set_option linter.unusedSectionVars false
set_option linter.unusedSimpArgs false
def IfaceAt (w : World) (g : Nat) : Prop := ∃ te pe, w.cell? ⟨g, 0, none⟩ = some (.iface te pe)
/-- both variables hold some error -/
def EV (w : World) : Prop := IfaceAt w 4 ∧ IfaceAt w 5
theorem IfaceAt.below {w w' : World} {g : Nat} {B : Nat} (h : IfaceAt w g) (hb : Below B w w') (hB : B ≤ w.heap.size) (hg : g < B) : IfaceAt w' g := by
  obtain ⟨te, pe, h⟩ := h
  exact ⟨te, pe, (hb.cell (p := ⟨g, 0, none⟩) hg).trans h⟩
theorem EV.below {w w' : World} (h : EV w) (hb : Below w.heap.size w w') : EV w' := by
  obtain ⟨⟨t1, p1, h1⟩, ⟨t2, p2, h2⟩⟩ := h
  exact ⟨⟨t1, p1, (hb.cell (p := ⟨4, 0, none⟩) (World.block_lt_of_cell? w _ h1)).trans h1⟩, ⟨t2, p2, (hb.cell (p := ⟨5, 0, none⟩) (World.block_lt_of_cell? w _ h2)).trans h2⟩⟩
theorem ifaceAt_of_laid {L : List (String × DataW Unit)} {name nm : String} {d : DataW Unit} {g : Nat} {ti : TypeId} {ms : Array (String × TypeId)} (hfl : (L.filter fun x => x.2.handleName?.isNone).filter (fun x => x.1 == name) = [(name, .iface nm d)])
    (hg : Tryz.prog.globalNamed name = some g) (hty : (Tryz.prog.globals[g]?).map (·.type) = some ti) (hi : Tryz.prog.underlying ti = some (.interface ms)) {W : World} (h : laidMetH Tryz.prog L W) : IfaceAt W g := by
  have h2 := ((laidMetH_iff.1 h).1).filter fun x => x.1 == name
  rw [hfl] at h2
  obtain ⟨ps, ⟨g', t', cs, fuel, p, q, hg', ht', hvar, hd, _, _⟩, _⟩ := h2
  obtain rfl := Option.some.inj (hg.symm.trans hg')
  obtain rfl := Option.some.inj (hty.symm.trans ht')
  obtain ⟨_, u, v, hc, _, _⟩ := iface_of_trod hi hd
  have := World.var?_cell hg hvar 0
  refine ⟨u, v, ?_⟩
  rw [this]
  rw [← Array.getElem?_toList, hc]
  rfl
end Go.Proofs.YtdpgchofnglceaaGreatDoor
