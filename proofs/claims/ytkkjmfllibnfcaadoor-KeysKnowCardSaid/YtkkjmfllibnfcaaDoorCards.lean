/-
  DERIVED. GIVEN WITH THE SEED: THE CARDS: each row of YtkkjmfllibnfcaaDoorRows.lean that lists a variable, with what it lists TIED to the program's text (the seventh form; the later family's looks); each row that meets fmt, with fmt's text TOLD by the authors' own Lean function (tested against real Go, not proved from fmt's source: count such statements apart). THE CARD IS WHAT COUNTS. Prove the row's statement (the work); the ties are given (YtkkjmfllibnfcaaDoorTie.lean); close each card by the builder's one call (the guide's Derived/Test/ToyasCard.lean, 'card_holds'). Laid BY PROGRAM, IN A SANDBOX (cutbox-door.mjs). By AI agents, Wed Nov 11 2026. No macro, syntax, notation, axiom, sorry.
-/
import Derived.Test.YtkkjmfllibnfcaaDoorRows
import GoSem.ClaimSeven
namespace Go.Proofs.YtkkjmfllibnfcaaDoor
namespace Rows

/-- THE TIED CARD OF 'quaymasterlaw.Md5Sums'. -/
def md5SumsCard : Claim7 := { stood := { row := md5SumsRow, standIns := [], harness := (true, "31f1e830303c274e7f4a35f7b1c3e44d1da874f10891881b4626bcfe0de54ae0"), looks := true }, kinds := [], alts := [], laidByText := true, laidKinds := [.data, .data, .data, .sentinel, .sentinel], laidTests := true, laidLooks := .later }
def Md5SumsCardSaid : Prop := Claim7.holds Tryd.pinned (.plain (OpenSpec.ofChange md5SumsSpec)) md5SumsCard

/-- THE TIED CARD OF 'quaymasterlaw.KeysKnow'. -/
def keysKnowCard : Claim7 := { stood := { row := keysKnowRow, standIns := [], harness := (true, "31f1e830303c274e7f4a35f7b1c3e44d1da874f10891881b4626bcfe0de54ae0"), looks := true }, kinds := [], alts := [], laidByText := true, laidKinds := [.data, .data, .data, .data, .handle, .sentinel, .sentinel, .listed, .data, .pinned], laidTests := true, laidLooks := .later }
def KeysKnowCardSaid : Prop := Claim7.holds Tryd.pinned (.plain (OpenSpec.ofChange keysKnowSpec)) keysKnowCard

/-- THE SECOND FORM's CARD OF 'quaymasterlaw.Md5Sums'. -/
def md5SumsUptoCard : Claim7 := { stood := { row := md5SumsUptoRow, standIns := [], harness := (true, "31f1e830303c274e7f4a35f7b1c3e44d1da874f10891881b4626bcfe0de54ae0"), looks := true }, kinds := [], alts := [], laidByText := true, laidKinds := [.data, .data, .data, .sentinel, .sentinel], laidTests := true, laidLooks := .later }
def Md5SumsUptoCardSaid : Prop := Claim7.holds Tryd.pinned (.plain (OpenSpec.upto md5SumsSpec)) md5SumsUptoCard

/-- THE SECOND FORM's CARD OF 'quaymasterlaw.KeysKnow'. -/
def keysKnowUptoCard : Claim7 := { stood := { row := keysKnowUptoRow, standIns := [], harness := (true, "31f1e830303c274e7f4a35f7b1c3e44d1da874f10891881b4626bcfe0de54ae0"), looks := true }, kinds := [], alts := [], laidByText := true, laidKinds := [.data, .data, .data, .data, .handle, .sentinel, .sentinel, .listed, .data, .pinned], laidTests := true, laidLooks := .later }
def KeysKnowUptoCardSaid : Prop := Claim7.holds Tryd.pinned (.plain (OpenSpec.upto keysKnowSpec)) keysKnowUptoCard
end Rows
end Go.Proofs.YtkkjmfllibnfcaaDoor
