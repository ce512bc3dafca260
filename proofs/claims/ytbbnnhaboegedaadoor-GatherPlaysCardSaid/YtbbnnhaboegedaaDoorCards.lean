/-
  DERIVED. GIVEN WITH THE SEED: THE CARDS: each row of YtbbnnhaboegedaaDoorRows.lean that lists a variable, with what it lists TIED to the program's text (the seventh form; the later family's looks); each row that meets fmt, with fmt's text TOLD by the authors' own Lean function (tested against real Go, not proved from fmt's source: count such statements apart). THE CARD IS WHAT COUNTS. Prove the row's statement (the work); the ties are given (YtbbnnhaboegedaaDoorTie.lean); close each card by the builder's one call (the guide's Derived/Test/ToyasCard.lean, 'card_holds'). Laid BY PROGRAM, IN A SANDBOX (cutbox-door.mjs). By AI agents, Wed Nov 11 2026. No macro, syntax, notation, axiom, sorry.
-/
import Derived.Test.YtbbnnhaboegedaaDoorRows
import GoSem.ClaimSeven
namespace Go.Proofs.YtbbnnhaboegedaaDoor
namespace Rows

/-- THE TIED CARD OF 'quaymasterlaw.Md5Sums'. -/
def md5SumsCard : Claim7 := { stood := { row := md5SumsRow, standIns := [], harness := (true, "23ead452d30fb330d4e1af2417a4664fef4edb5d6bc918d2a44c0c0cac351c77"), looks := true }, kinds := [], alts := [], laidByText := true, laidKinds := [.data, .data, .data, .sentinel, .sentinel], laidTests := true, laidLooks := .later }
def Md5SumsCardSaid : Prop := Claim7.holds Tryd.pinned (.plain (OpenSpec.ofChange md5SumsSpec)) md5SumsCard

/-- THE TIED CARD OF 'quaymasterlaw.PairsPrints'. -/
def pairsPrintsCard : Claim7 := { stood := { row := pairsPrintsRow, standIns := [], harness := (true, "23ead452d30fb330d4e1af2417a4664fef4edb5d6bc918d2a44c0c0cac351c77"), looks := true }, kinds := [], alts := [], laidByText := true, laidKinds := [.data, .handle, .pinned, .pinned], laidTests := true, laidLooks := .later }
def PairsPrintsCardSaid : Prop := Claim7.holds Tryd.pinned (.plain (OpenSpec.ofChange pairsPrintsSpec)) pairsPrintsCard

/-- THE TIED CARD OF 'quaymasterlaw.PairsParses'. -/
def pairsParsesCard : Claim7 := { stood := { row := pairsParsesRow, standIns := [], harness := (true, "23ead452d30fb330d4e1af2417a4664fef4edb5d6bc918d2a44c0c0cac351c77"), looks := true }, kinds := [], alts := [], laidByText := true, laidKinds := [.data, .handle, .pinned, .pinned], laidTests := true, laidLooks := .later }
def PairsParsesCardSaid : Prop := Claim7.holds Tryd.pinned (.plain (OpenSpec.ofChange pairsParsesSpec)) pairsParsesCard

/-- THE TIED CARD OF 'quaymasterlaw.GatherPlays'. -/
def gatherPlaysCard : Claim7 := { stood := { row := gatherPlaysRow, standIns := [], harness := (true, "23ead452d30fb330d4e1af2417a4664fef4edb5d6bc918d2a44c0c0cac351c77"), looks := true }, kinds := [], alts := [], laidByText := true, laidKinds := [.data, .handle, .pinned, .pinned], laidTests := true, laidLooks := .later }
def GatherPlaysCardSaid : Prop := Claim7.holds Tryd.pinned (.plain (OpenSpec.ofChange gatherPlaysSpec)) gatherPlaysCard

/-- THE TIED CARD OF 'quaymasterlaw.KeysKnow'. -/
def keysKnowCard : Claim7 := { stood := { row := keysKnowRow, standIns := [], harness := (true, "23ead452d30fb330d4e1af2417a4664fef4edb5d6bc918d2a44c0c0cac351c77"), looks := true }, kinds := [], alts := [], laidByText := true, laidKinds := [.data, .data, .data, .data, .handle, .sentinel, .sentinel, .listed, .data, .pinned], laidTests := true, laidLooks := .later }
def KeysKnowCardSaid : Prop := Claim7.holds Tryd.pinned (.plain (OpenSpec.ofChange keysKnowSpec)) keysKnowCard

/-- THE SECOND FORM's CARD OF 'quaymasterlaw.Md5Sums'. -/
def md5SumsUptoCard : Claim7 := { stood := { row := md5SumsUptoRow, standIns := [], harness := (true, "23ead452d30fb330d4e1af2417a4664fef4edb5d6bc918d2a44c0c0cac351c77"), looks := true }, kinds := [], alts := [], laidByText := true, laidKinds := [.data, .data, .data, .sentinel, .sentinel], laidTests := true, laidLooks := .later }
def Md5SumsUptoCardSaid : Prop := Claim7.holds Tryd.pinned (.plain (OpenSpec.upto md5SumsSpec)) md5SumsUptoCard

/-- THE SECOND FORM's CARD OF 'quaymasterlaw.PairsPrints'. -/
def pairsPrintsUptoCard : Claim7 := { stood := { row := pairsPrintsUptoRow, standIns := [], harness := (true, "23ead452d30fb330d4e1af2417a4664fef4edb5d6bc918d2a44c0c0cac351c77"), looks := true }, kinds := [], alts := [], laidByText := true, laidKinds := [.data, .handle, .pinned, .pinned], laidTests := true, laidLooks := .later }
def PairsPrintsUptoCardSaid : Prop := Claim7.holds Tryd.pinned (.plain (OpenSpec.upto pairsPrintsSpec)) pairsPrintsUptoCard

/-- THE SECOND FORM's CARD OF 'quaymasterlaw.PairsParses'. -/
def pairsParsesUptoCard : Claim7 := { stood := { row := pairsParsesUptoRow, standIns := [], harness := (true, "23ead452d30fb330d4e1af2417a4664fef4edb5d6bc918d2a44c0c0cac351c77"), looks := true }, kinds := [], alts := [], laidByText := true, laidKinds := [.data, .handle, .pinned, .pinned], laidTests := true, laidLooks := .later }
def PairsParsesUptoCardSaid : Prop := Claim7.holds Tryd.pinned (.plain (OpenSpec.upto pairsParsesSpec)) pairsParsesUptoCard

/-- THE SECOND FORM's CARD OF 'quaymasterlaw.GatherPlays'. -/
def gatherPlaysUptoCard : Claim7 := { stood := { row := gatherPlaysUptoRow, standIns := [], harness := (true, "23ead452d30fb330d4e1af2417a4664fef4edb5d6bc918d2a44c0c0cac351c77"), looks := true }, kinds := [], alts := [], laidByText := true, laidKinds := [.data, .handle, .pinned, .pinned], laidTests := true, laidLooks := .later }
def GatherPlaysUptoCardSaid : Prop := Claim7.holds Tryd.pinned (.plain (OpenSpec.upto gatherPlaysSpec)) gatherPlaysUptoCard

/-- THE SECOND FORM's CARD OF 'quaymasterlaw.KeysKnow'. -/
def keysKnowUptoCard : Claim7 := { stood := { row := keysKnowUptoRow, standIns := [], harness := (true, "23ead452d30fb330d4e1af2417a4664fef4edb5d6bc918d2a44c0c0cac351c77"), looks := true }, kinds := [], alts := [], laidByText := true, laidKinds := [.data, .data, .data, .data, .handle, .sentinel, .sentinel, .listed, .data, .pinned], laidTests := true, laidLooks := .later }
def KeysKnowUptoCardSaid : Prop := Claim7.holds Tryd.pinned (.plain (OpenSpec.upto keysKnowSpec)) keysKnowUptoCard
end Rows
end Go.Proofs.YtbbnnhaboegedaaDoor
