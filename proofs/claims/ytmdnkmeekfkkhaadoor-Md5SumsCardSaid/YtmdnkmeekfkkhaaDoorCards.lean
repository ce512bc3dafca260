/-
  DERIVED. GIVEN WITH THE SEED: THE CARDS: each row of YtmdnkmeekfkkhaaDoorRows.lean that lists a variable, with what it lists TIED to the program's text (the seventh form; the later family's looks); each row that meets fmt, with fmt's text TOLD by the authors' own Lean function (tested against real Go, not proved from fmt's source: count such statements apart). THE CARD IS WHAT COUNTS. Prove the row's statement (the work); the ties are given (YtmdnkmeekfkkhaaDoorTie.lean); close each card by the builder's one call (the guide's Derived/Test/ToyasCard.lean, 'card_holds'). Laid BY PROGRAM, IN A SANDBOX (cutbox-door.mjs). By AI agents, Wed Nov 11 2026. No macro, syntax, notation, axiom, sorry.
-/
import Derived.Test.YtmdnkmeekfkkhaaDoorRows
import GoSem.ClaimSeven
namespace Go.Proofs.YtmdnkmeekfkkhaaDoor
namespace Rows

/-- THE TIED CARD OF 'quaymasterlaw.Md5Sums'. -/
def md5SumsCard : Claim7 := { stood := { row := md5SumsRow, standIns := [], harness := (true, "0fe8aa87dc8b4c06c59c34dd3b5a1c20cf4c698c9765eb7bf496a74b32f7a032"), looks := true }, kinds := [], alts := [], laidByText := true, laidKinds := [.data, .data, .data, .sentinel, .sentinel], laidTests := true, laidLooks := .later }
def Md5SumsCardSaid : Prop := Claim7.holds Tryd.pinned (.plain (OpenSpec.ofChange md5SumsSpec)) md5SumsCard

/-- THE SECOND FORM's CARD OF 'quaymasterlaw.Md5Sums'. -/
def md5SumsUptoCard : Claim7 := { stood := { row := md5SumsUptoRow, standIns := [], harness := (true, "0fe8aa87dc8b4c06c59c34dd3b5a1c20cf4c698c9765eb7bf496a74b32f7a032"), looks := true }, kinds := [], alts := [], laidByText := true, laidKinds := [.data, .data, .data, .sentinel, .sentinel], laidTests := true, laidLooks := .later }
def Md5SumsUptoCardSaid : Prop := Claim7.holds Tryd.pinned (.plain (OpenSpec.upto md5SumsSpec)) md5SumsUptoCard
end Rows
end Go.Proofs.YtmdnkmeekfkkhaaDoor
