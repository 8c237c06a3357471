/-
  DERIVED. GIVEN WITH THE SEED: THE CARDS: each row of YteennbdakjjcfaaDoorRows.lean that lists a variable, with what it lists TIED to the program's text (the seventh form; the later family's looks); each row that meets fmt, with fmt's text TOLD by the authors' own Lean function (tested against real Go, not proved from fmt's source: count such statements apart). THE CARD IS WHAT COUNTS. Prove the row's statement (the work); the ties are given (YteennbdakjjcfaaDoorTie.lean); close each card by the builder's one call (the guide's Derived/Test/ToyasCard.lean, 'card_holds'). Laid BY PROGRAM, IN A SANDBOX (cutbox-door.mjs). By AI agents, Wed Nov 11 2026. No macro, syntax, notation, axiom, sorry.
-/
import Derived.Test.YteennbdakjjcfaaDoorRows
import GoSem.ClaimSeven
namespace Go.Proofs.YteennbdakjjcfaaDoor
namespace Rows

/-- THE TIED CARD OF 'garderobelaw31.LinesParse'. -/
def linesParseCard : Claim7 := { stood := { row := linesParseRow, standIns := [], harness := (true, "1b2fa97c1380643b8c0e75fe7affe3151739ca619c199fcc140154f14ee090a7"), looks := false }, kinds := [], alts := [], laidByText := true, laidKinds := [.data, .pinned], laidTests := true, laidLooks := .later }
def LinesParseCardSaid : Prop := Claim7.holds Tryd.pinned (.plain (OpenSpec.ofChange linesParseSpec)) linesParseCard

/-- THE TIED CARD OF 'garderobelaw31.LinesBlank'. -/
def linesBlankCard : Claim7 := { stood := { row := linesBlankRow, standIns := [], harness := (true, "1b2fa97c1380643b8c0e75fe7affe3151739ca619c199fcc140154f14ee090a7"), looks := false }, kinds := [], alts := [], laidByText := true, laidKinds := [.data, .pinned], laidTests := true, laidLooks := .later }
def LinesBlankCardSaid : Prop := Claim7.holds Tryd.pinned (.plain (OpenSpec.ofChange linesBlankSpec)) linesBlankCard

/-- THE TIED CARD OF 'garderobelaw31.LinesPrint'. -/
def linesPrintCard : Claim7 := { stood := { row := linesPrintRow, standIns := [], harness := (true, "1b2fa97c1380643b8c0e75fe7affe3151739ca619c199fcc140154f14ee090a7"), looks := false }, kinds := [], alts := [], laidByText := true, laidKinds := [.data, .pinned], laidTests := true, laidLooks := .later }
def LinesPrintCardSaid : Prop := Claim7.holds Tryd.pinned (.plain (OpenSpec.ofChange linesPrintSpec)) linesPrintCard

/-- THE SECOND FORM's CARD OF 'garderobelaw31.LinesParse'. -/
def linesParseUptoCard : Claim7 := { stood := { row := linesParseUptoRow, standIns := [], harness := (true, "1b2fa97c1380643b8c0e75fe7affe3151739ca619c199fcc140154f14ee090a7"), looks := false }, kinds := [], alts := [], laidByText := true, laidKinds := [.data, .pinned], laidTests := true, laidLooks := .later }
def LinesParseUptoCardSaid : Prop := Claim7.holds Tryd.pinned (.plain (OpenSpec.upto linesParseSpec)) linesParseUptoCard

/-- THE SECOND FORM's CARD OF 'garderobelaw31.LinesBlank'. -/
def linesBlankUptoCard : Claim7 := { stood := { row := linesBlankUptoRow, standIns := [], harness := (true, "1b2fa97c1380643b8c0e75fe7affe3151739ca619c199fcc140154f14ee090a7"), looks := false }, kinds := [], alts := [], laidByText := true, laidKinds := [.data, .pinned], laidTests := true, laidLooks := .later }
def LinesBlankUptoCardSaid : Prop := Claim7.holds Tryd.pinned (.plain (OpenSpec.upto linesBlankSpec)) linesBlankUptoCard

/-- THE SECOND FORM's CARD OF 'garderobelaw31.LinesPrint'. -/
def linesPrintUptoCard : Claim7 := { stood := { row := linesPrintUptoRow, standIns := [], harness := (true, "1b2fa97c1380643b8c0e75fe7affe3151739ca619c199fcc140154f14ee090a7"), looks := false }, kinds := [], alts := [], laidByText := true, laidKinds := [.data, .pinned], laidTests := true, laidLooks := .later }
def LinesPrintUptoCardSaid : Prop := Claim7.holds Tryd.pinned (.plain (OpenSpec.upto linesPrintSpec)) linesPrintUptoCard
end Rows
end Go.Proofs.YteennbdakjjcfaaDoor
