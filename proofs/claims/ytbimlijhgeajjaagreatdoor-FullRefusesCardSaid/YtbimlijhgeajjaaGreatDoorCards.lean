/-
  DERIVED. GIVEN WITH THE SEED: THE CARDS: each row of YtbimlijhgeajjaaGreatDoorRows.lean that lists a variable, with what it lists TIED to the program's text (the seventh form; the later family's looks); each row that meets fmt, with fmt's text TOLD by the authors' own Lean function (tested against real Go, not proved from fmt's source: count such statements apart). THE CARD IS WHAT COUNTS. Prove the row's statement (the work); the ties are given (YtbimlijhgeajjaaGreatDoorTie.lean); close each card by the builder's one call (the guide's Derived/Test/ToyasCard.lean, 'card_holds'). Laid BY PROGRAM, IN A SANDBOX (cutbox-door.mjs). By AI agents, Wed Nov 11 2026. No macro, syntax, notation, axiom, sorry.
-/
import Derived.Test.YtbimlijhgeajjaaGreatDoorRows
import GoSem.ClaimSeven
namespace Go.Proofs.YtbimlijhgeajjaaGreatDoor
namespace Rows

/-- THE TIED CARD OF 'quaymasterlaw.FullRefuses'. -/
def fullRefusesCard : Claim7 := { stood := { row := fullRefusesRow, standIns := [], harness := (true, "651361c2b03206f053cd16c9457821b427878d94bc416643fe791f6685e1461d"), looks := true }, kinds := [], alts := [], laidByText := true, laidKinds := [.data, .data, .data, .data, .handle, .sentinel, .sentinel, .listed, .data, .pinned, .pinned], laidTests := true, laidLooks := .later }
def FullRefusesCardSaid : Prop := Claim7.holds Tryz.pinned (.plain (OpenSpec.ofChange fullRefusesSpec)) fullRefusesCard

/-- THE TIED CARD OF 'quaymasterlaw.FullPlays'. -/
def fullPlaysCard : Claim7 := { stood := { row := fullPlaysRow, standIns := [], harness := (true, "651361c2b03206f053cd16c9457821b427878d94bc416643fe791f6685e1461d"), looks := true }, kinds := [], alts := [], laidByText := true, laidKinds := [.data, .data, .data, .data, .handle, .sentinel, .sentinel, .listed, .data, .pinned, .pinned], laidTests := true, laidLooks := .later }
def FullPlaysCardSaid : Prop := Claim7.holds Tryz.pinned (.plain (OpenSpec.ofChange fullPlaysSpec)) fullPlaysCard

/-- THE SECOND FORM's CARD OF 'quaymasterlaw.FullRefuses'. -/
def fullRefusesUptoCard : Claim7 := { stood := { row := fullRefusesUptoRow, standIns := [], harness := (true, "651361c2b03206f053cd16c9457821b427878d94bc416643fe791f6685e1461d"), looks := true }, kinds := [], alts := [], laidByText := true, laidKinds := [.data, .data, .data, .data, .handle, .sentinel, .sentinel, .listed, .data, .pinned, .pinned], laidTests := true, laidLooks := .later }
def FullRefusesUptoCardSaid : Prop := Claim7.holds Tryz.pinned (.plain (OpenSpec.upto fullRefusesSpec)) fullRefusesUptoCard

/-- THE SECOND FORM's CARD OF 'quaymasterlaw.FullPlays'. -/
def fullPlaysUptoCard : Claim7 := { stood := { row := fullPlaysUptoRow, standIns := [], harness := (true, "651361c2b03206f053cd16c9457821b427878d94bc416643fe791f6685e1461d"), looks := true }, kinds := [], alts := [], laidByText := true, laidKinds := [.data, .data, .data, .data, .handle, .sentinel, .sentinel, .listed, .data, .pinned, .pinned], laidTests := true, laidLooks := .later }
def FullPlaysUptoCardSaid : Prop := Claim7.holds Tryz.pinned (.plain (OpenSpec.upto fullPlaysSpec)) fullPlaysUptoCard
end Rows
end Go.Proofs.YtbimlijhgeajjaaGreatDoor
