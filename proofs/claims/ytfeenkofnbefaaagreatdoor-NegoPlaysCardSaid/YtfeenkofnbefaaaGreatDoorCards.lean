/-
  DERIVED. GIVEN WITH THE SEED: THE CARDS: each row of YtfeenkofnbefaaaGreatDoorRows.lean that lists a variable, with what it lists TIED to the program's text (the seventh form; the later family's looks); each row that meets fmt, with fmt's text TOLD by the authors' own Lean function (tested against real Go, not proved from fmt's source: count such statements apart). THE CARD IS WHAT COUNTS. Prove the row's statement (the work); the ties are given (YtfeenkofnbefaaaGreatDoorTie.lean); close each card by the builder's one call (the guide's Derived/Test/ToyasCard.lean, 'card_holds'). Laid BY PROGRAM, IN A SANDBOX (cutbox-door.mjs). By AI agents, Wed Nov 11 2026. No macro, syntax, notation, axiom, sorry.
-/
import Derived.Test.YtfeenkofnbefaaaGreatDoorRows
import GoSem.ClaimSeven
namespace Go.Proofs.YtfeenkofnbefaaaGreatDoor
namespace Rows

/-- THE TIED CARD OF 'quaymasterlaw.FeedPlays'. -/
def feedPlaysCard : Claim7 := { stood := { row := feedPlaysRow, standIns := [], harness := (true, "688638509010e2f2f4cc09818309794465a56a411a3be66fa0f673ad33697cb7"), looks := true }, kinds := [], alts := [], laidByText := true, laidKinds := [.data, .data, .data, .data, .handle, .sentinel, .sentinel, .listed, .data, .pinned], laidTests := true, laidLooks := .later }
def FeedPlaysCardSaid : Prop := Claim7.holds Tryz.pinned (.plain (OpenSpec.ofChange feedPlaysSpec)) feedPlaysCard

/-- THE TIED CARD OF 'quaymasterlaw.TargetRights'. -/
def targetRightsCard : Claim7 := { stood := { row := targetRightsRow, standIns := [], harness := (true, "688638509010e2f2f4cc09818309794465a56a411a3be66fa0f673ad33697cb7"), looks := true }, kinds := [], alts := [], laidByText := true, laidKinds := [.data, .data, .data, .data, .handle, .sentinel, .sentinel, .listed, .data, .pinned, .pinned], laidTests := true, laidLooks := .later }
def TargetRightsCardSaid : Prop := Claim7.holds Tryz.pinned (.plain (OpenSpec.ofChange targetRightsSpec)) targetRightsCard

/-- THE TIED CARD OF 'quaymasterlaw.NegoPlays'. -/
def negoPlaysCard : Claim7 := { stood := { row := negoPlaysRow, standIns := [], harness := (true, "688638509010e2f2f4cc09818309794465a56a411a3be66fa0f673ad33697cb7"), looks := true }, kinds := [], alts := [], laidByText := true, laidKinds := [.data, .data, .data, .data, .handle, .sentinel, .sentinel, .listed, .data, .pinned, .pinned], laidTests := true, laidLooks := .later }
def NegoPlaysCardSaid : Prop := Claim7.holds Tryz.pinned (.plain (OpenSpec.ofChange negoPlaysSpec)) negoPlaysCard

/-- THE TIED CARD OF 'quaymasterlaw.FullRefuses'. -/
def fullRefusesCard : Claim7 := { stood := { row := fullRefusesRow, standIns := [], harness := (true, "688638509010e2f2f4cc09818309794465a56a411a3be66fa0f673ad33697cb7"), looks := true }, kinds := [], alts := [], laidByText := true, laidKinds := [.data, .data, .data, .data, .handle, .sentinel, .sentinel, .listed, .data, .pinned, .pinned], laidTests := true, laidLooks := .later }
def FullRefusesCardSaid : Prop := Claim7.holds Tryz.pinned (.plain (OpenSpec.ofChange fullRefusesSpec)) fullRefusesCard

/-- THE SECOND FORM's CARD OF 'quaymasterlaw.FeedPlays'. -/
def feedPlaysUptoCard : Claim7 := { stood := { row := feedPlaysUptoRow, standIns := [], harness := (true, "688638509010e2f2f4cc09818309794465a56a411a3be66fa0f673ad33697cb7"), looks := true }, kinds := [], alts := [], laidByText := true, laidKinds := [.data, .data, .data, .data, .handle, .sentinel, .sentinel, .listed, .data, .pinned], laidTests := true, laidLooks := .later }
def FeedPlaysUptoCardSaid : Prop := Claim7.holds Tryz.pinned (.plain (OpenSpec.upto feedPlaysSpec)) feedPlaysUptoCard

/-- THE SECOND FORM's CARD OF 'quaymasterlaw.TargetRights'. -/
def targetRightsUptoCard : Claim7 := { stood := { row := targetRightsUptoRow, standIns := [], harness := (true, "688638509010e2f2f4cc09818309794465a56a411a3be66fa0f673ad33697cb7"), looks := true }, kinds := [], alts := [], laidByText := true, laidKinds := [.data, .data, .data, .data, .handle, .sentinel, .sentinel, .listed, .data, .pinned, .pinned], laidTests := true, laidLooks := .later }
def TargetRightsUptoCardSaid : Prop := Claim7.holds Tryz.pinned (.plain (OpenSpec.upto targetRightsSpec)) targetRightsUptoCard

/-- THE SECOND FORM's CARD OF 'quaymasterlaw.NegoPlays'. -/
def negoPlaysUptoCard : Claim7 := { stood := { row := negoPlaysUptoRow, standIns := [], harness := (true, "688638509010e2f2f4cc09818309794465a56a411a3be66fa0f673ad33697cb7"), looks := true }, kinds := [], alts := [], laidByText := true, laidKinds := [.data, .data, .data, .data, .handle, .sentinel, .sentinel, .listed, .data, .pinned, .pinned], laidTests := true, laidLooks := .later }
def NegoPlaysUptoCardSaid : Prop := Claim7.holds Tryz.pinned (.plain (OpenSpec.upto negoPlaysSpec)) negoPlaysUptoCard

/-- THE SECOND FORM's CARD OF 'quaymasterlaw.FullRefuses'. -/
def fullRefusesUptoCard : Claim7 := { stood := { row := fullRefusesUptoRow, standIns := [], harness := (true, "688638509010e2f2f4cc09818309794465a56a411a3be66fa0f673ad33697cb7"), looks := true }, kinds := [], alts := [], laidByText := true, laidKinds := [.data, .data, .data, .data, .handle, .sentinel, .sentinel, .listed, .data, .pinned, .pinned], laidTests := true, laidLooks := .later }
def FullRefusesUptoCardSaid : Prop := Claim7.holds Tryz.pinned (.plain (OpenSpec.upto fullRefusesSpec)) fullRefusesUptoCard
end Rows
end Go.Proofs.YtfeenkofnbefaaaGreatDoor
