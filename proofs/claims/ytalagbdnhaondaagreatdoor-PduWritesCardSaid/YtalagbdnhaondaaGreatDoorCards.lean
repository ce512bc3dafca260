/-
  DERIVED. GIVEN WITH THE SEED: THE CARDS: each row of YtalagbdnhaondaaGreatDoorRows.lean that lists a variable, with what it lists TIED to the program's text (the seventh form; the later family's looks); each row that meets fmt, with fmt's text TOLD by the authors' own Lean function (tested against real Go, not proved from fmt's source: count such statements apart). THE CARD IS WHAT COUNTS. Prove the row's statement (the work); the ties are given (YtalagbdnhaondaaGreatDoorTie.lean); close each card by the builder's one call (the guide's Derived/Test/ToyasCard.lean, 'card_holds'). Laid BY PROGRAM, IN A SANDBOX (cutbox-door.mjs). By AI agents, Wed Nov 11 2026. No macro, syntax, notation, axiom, sorry.
-/
import Derived.Test.YtalagbdnhaondaaGreatDoorRows
import GoSem.ClaimSeven
namespace Go.Proofs.YtalagbdnhaondaaGreatDoor
namespace Rows

/-- THE TIED CARD OF 'quaymasterlaw.KeysReads'. -/
def keysReadsCard : Claim7 := { stood := { row := keysReadsRow, standIns := [], harness := (true, "9efbc9a6efd49647948ef4bcc419b9c48874f1390426ef92ba54a547ed67578b"), looks := true }, kinds := [], alts := [], laidByText := true, laidKinds := [.data, .data, .data, .data, .handle, .sentinel, .sentinel, .pinned, .pinned], laidTests := true, laidLooks := .later }
def KeysReadsCardSaid : Prop := Claim7.holds Tryz.pinned (.plain (OpenSpec.ofChange keysReadsSpec)) keysReadsCard

/-- THE TIED CARD OF 'quaymasterlaw.PduWrites'. -/
def pduWritesCard : Claim7 := { stood := { row := pduWritesRow, standIns := [], harness := (true, "9efbc9a6efd49647948ef4bcc419b9c48874f1390426ef92ba54a547ed67578b"), looks := true }, kinds := [], alts := [], laidByText := true, laidKinds := [.data, .data, .data, .data, .handle, .sentinel, .sentinel, .listed, .data, .pinned], laidTests := true, laidLooks := .later }
def PduWritesCardSaid : Prop := Claim7.holds Tryz.pinned (.plain (OpenSpec.ofChange pduWritesSpec)) pduWritesCard

/-- THE TIED CARD OF 'quaymasterlaw.PduReads'. -/
def pduReadsCard : Claim7 := { stood := { row := pduReadsRow, standIns := [], harness := (true, "9efbc9a6efd49647948ef4bcc419b9c48874f1390426ef92ba54a547ed67578b"), looks := true }, kinds := [], alts := [], laidByText := true, laidKinds := [.data, .data, .data, .data, .handle, .sentinel, .sentinel, .listed, .data, .pinned], laidTests := true, laidLooks := .later }
def PduReadsCardSaid : Prop := Claim7.holds Tryz.pinned (.plain (OpenSpec.ofChange pduReadsSpec)) pduReadsCard

/-- THE TIED CARD OF 'quaymasterlaw.KeysResults'. -/
def keysResultsCard : Claim7 := { stood := { row := keysResultsRow, standIns := [], harness := (true, "9efbc9a6efd49647948ef4bcc419b9c48874f1390426ef92ba54a547ed67578b"), looks := true }, kinds := [], alts := [], laidByText := true, laidKinds := [.data, .data, .data, .data, .handle, .sentinel, .sentinel, .listed, .data, .pinned, .pinned], laidTests := true, laidLooks := .later }
def KeysResultsCardSaid : Prop := Claim7.holds Tryz.pinned (.plain (OpenSpec.ofChange keysResultsSpec)) keysResultsCard

/-- THE SECOND FORM's CARD OF 'quaymasterlaw.KeysReads'. -/
def keysReadsUptoCard : Claim7 := { stood := { row := keysReadsUptoRow, standIns := [], harness := (true, "9efbc9a6efd49647948ef4bcc419b9c48874f1390426ef92ba54a547ed67578b"), looks := true }, kinds := [], alts := [], laidByText := true, laidKinds := [.data, .data, .data, .data, .handle, .sentinel, .sentinel, .pinned, .pinned], laidTests := true, laidLooks := .later }
def KeysReadsUptoCardSaid : Prop := Claim7.holds Tryz.pinned (.plain (OpenSpec.upto keysReadsSpec)) keysReadsUptoCard

/-- THE SECOND FORM's CARD OF 'quaymasterlaw.PduWrites'. -/
def pduWritesUptoCard : Claim7 := { stood := { row := pduWritesUptoRow, standIns := [], harness := (true, "9efbc9a6efd49647948ef4bcc419b9c48874f1390426ef92ba54a547ed67578b"), looks := true }, kinds := [], alts := [], laidByText := true, laidKinds := [.data, .data, .data, .data, .handle, .sentinel, .sentinel, .listed, .data, .pinned], laidTests := true, laidLooks := .later }
def PduWritesUptoCardSaid : Prop := Claim7.holds Tryz.pinned (.plain (OpenSpec.upto pduWritesSpec)) pduWritesUptoCard

/-- THE SECOND FORM's CARD OF 'quaymasterlaw.PduReads'. -/
def pduReadsUptoCard : Claim7 := { stood := { row := pduReadsUptoRow, standIns := [], harness := (true, "9efbc9a6efd49647948ef4bcc419b9c48874f1390426ef92ba54a547ed67578b"), looks := true }, kinds := [], alts := [], laidByText := true, laidKinds := [.data, .data, .data, .data, .handle, .sentinel, .sentinel, .listed, .data, .pinned], laidTests := true, laidLooks := .later }
def PduReadsUptoCardSaid : Prop := Claim7.holds Tryz.pinned (.plain (OpenSpec.upto pduReadsSpec)) pduReadsUptoCard

/-- THE SECOND FORM's CARD OF 'quaymasterlaw.KeysResults'. -/
def keysResultsUptoCard : Claim7 := { stood := { row := keysResultsUptoRow, standIns := [], harness := (true, "9efbc9a6efd49647948ef4bcc419b9c48874f1390426ef92ba54a547ed67578b"), looks := true }, kinds := [], alts := [], laidByText := true, laidKinds := [.data, .data, .data, .data, .handle, .sentinel, .sentinel, .listed, .data, .pinned, .pinned], laidTests := true, laidLooks := .later }
def KeysResultsUptoCardSaid : Prop := Claim7.holds Tryz.pinned (.plain (OpenSpec.upto keysResultsSpec)) keysResultsUptoCard
end Rows
end Go.Proofs.YtalagbdnhaondaaGreatDoor
