/-
  DERIVED. GIVEN WITH THE SEED: THE CARDS: each row of YtdpabdlbohdkjaaDoorRows.lean that lists a variable, with what it lists TIED to the program's text (the seventh form; the later family's looks); each row that meets fmt, with fmt's text TOLD by the authors' own Lean function (tested against real Go, not proved from fmt's source: count such statements apart). THE CARD IS WHAT COUNTS. Prove the row's statement (the work); the ties are given (YtdpabdlbohdkjaaDoorTie.lean); close each card by the builder's one call (the guide's Derived/Test/ToyasCard.lean, 'card_holds'). Laid BY PROGRAM, IN A SANDBOX (cutbox-door.mjs). By AI agents, Wed Nov 11 2026. No macro, syntax, notation, axiom, sorry.
-/
import Derived.Test.YtdpabdlbohdkjaaDoorRows
import GoSem.ClaimSeven
namespace Go.Proofs.YtdpabdlbohdkjaaDoor
namespace Rows

/-- THE TIED CARD OF 'scorialaw04.WordRing'. -/
def wordRingCard : Claim7 := { stood := { row := wordRingRow, standIns := [], harness := (true, "0b641b6d81aeb7dc0c7abb9234b572a4d153e962178966034a45d3492bcac14d"), looks := false }, kinds := [], alts := [], laidByText := true, laidKinds := [.funcs], laidTests := true, laidLooks := .later }
def WordRingCardSaid : Prop := Claim7.holds Tryd.pinned (.plain (OpenSpec.ofChange wordRingSpec)) wordRingCard

/-- THE TIED CARD OF 'scorialaw04.WordDivides'. -/
def wordDividesCard : Claim7 := { stood := { row := wordDividesRow, standIns := [], harness := (true, "0b641b6d81aeb7dc0c7abb9234b572a4d153e962178966034a45d3492bcac14d"), looks := false }, kinds := [], alts := [], laidByText := true, laidKinds := [.funcs], laidTests := true, laidLooks := .later }
def WordDividesCardSaid : Prop := Claim7.holds Tryd.pinned (.plain (OpenSpec.ofChange wordDividesSpec)) wordDividesCard

/-- THE TIED CARD OF 'scorialaw04.WordBits'. -/
def wordBitsCard : Claim7 := { stood := { row := wordBitsRow, standIns := [], harness := (true, "0b641b6d81aeb7dc0c7abb9234b572a4d153e962178966034a45d3492bcac14d"), looks := false }, kinds := [], alts := [], laidByText := true, laidKinds := [.funcs], laidTests := true, laidLooks := .later }
def WordBitsCardSaid : Prop := Claim7.holds Tryd.pinned (.plain (OpenSpec.ofChange wordBitsSpec)) wordBitsCard

/-- THE TIED CARD OF 'scorialaw04.WordOrder'. -/
def wordOrderCard : Claim7 := { stood := { row := wordOrderRow, standIns := [], harness := (true, "0b641b6d81aeb7dc0c7abb9234b572a4d153e962178966034a45d3492bcac14d"), looks := false }, kinds := [], alts := [], laidByText := true, laidKinds := [.funcs], laidTests := true, laidLooks := .later }
def WordOrderCardSaid : Prop := Claim7.holds Tryd.pinned (.plain (OpenSpec.ofChange wordOrderSpec)) wordOrderCard

/-- THE TIED CARD OF 'scorialaw04.WordWraps'. -/
def wordWrapsCard : Claim7 := { stood := { row := wordWrapsRow, standIns := [], harness := (true, "0b641b6d81aeb7dc0c7abb9234b572a4d153e962178966034a45d3492bcac14d"), looks := false }, kinds := [], alts := [], laidByText := true, laidKinds := [.funcs], laidTests := true, laidLooks := .later }
def WordWrapsCardSaid : Prop := Claim7.holds Tryd.pinned (.plain (OpenSpec.ofChange wordWrapsSpec)) wordWrapsCard

/-- THE TIED CARD OF 'scorialaw04.WordOps'. -/
def wordOpsCard : Claim7 := { stood := { row := wordOpsRow, standIns := [], harness := (true, "0b641b6d81aeb7dc0c7abb9234b572a4d153e962178966034a45d3492bcac14d"), looks := false }, kinds := [], alts := [], laidByText := true, laidKinds := [.funcs], laidTests := true, laidLooks := .later }
def WordOpsCardSaid : Prop := Claim7.holds Tryd.pinned (.plain (OpenSpec.ofChange wordOpsSpec)) wordOpsCard

/-- THE SECOND FORM's CARD OF 'scorialaw04.WordRing'. -/
def wordRingUptoCard : Claim7 := { stood := { row := wordRingUptoRow, standIns := [], harness := (true, "0b641b6d81aeb7dc0c7abb9234b572a4d153e962178966034a45d3492bcac14d"), looks := false }, kinds := [], alts := [], laidByText := true, laidKinds := [.funcs], laidTests := true, laidLooks := .later }
def WordRingUptoCardSaid : Prop := Claim7.holds Tryd.pinned (.plain (OpenSpec.upto wordRingSpec)) wordRingUptoCard

/-- THE SECOND FORM's CARD OF 'scorialaw04.WordDivides'. -/
def wordDividesUptoCard : Claim7 := { stood := { row := wordDividesUptoRow, standIns := [], harness := (true, "0b641b6d81aeb7dc0c7abb9234b572a4d153e962178966034a45d3492bcac14d"), looks := false }, kinds := [], alts := [], laidByText := true, laidKinds := [.funcs], laidTests := true, laidLooks := .later }
def WordDividesUptoCardSaid : Prop := Claim7.holds Tryd.pinned (.plain (OpenSpec.upto wordDividesSpec)) wordDividesUptoCard

/-- THE SECOND FORM's CARD OF 'scorialaw04.WordBits'. -/
def wordBitsUptoCard : Claim7 := { stood := { row := wordBitsUptoRow, standIns := [], harness := (true, "0b641b6d81aeb7dc0c7abb9234b572a4d153e962178966034a45d3492bcac14d"), looks := false }, kinds := [], alts := [], laidByText := true, laidKinds := [.funcs], laidTests := true, laidLooks := .later }
def WordBitsUptoCardSaid : Prop := Claim7.holds Tryd.pinned (.plain (OpenSpec.upto wordBitsSpec)) wordBitsUptoCard

/-- THE SECOND FORM's CARD OF 'scorialaw04.WordOrder'. -/
def wordOrderUptoCard : Claim7 := { stood := { row := wordOrderUptoRow, standIns := [], harness := (true, "0b641b6d81aeb7dc0c7abb9234b572a4d153e962178966034a45d3492bcac14d"), looks := false }, kinds := [], alts := [], laidByText := true, laidKinds := [.funcs], laidTests := true, laidLooks := .later }
def WordOrderUptoCardSaid : Prop := Claim7.holds Tryd.pinned (.plain (OpenSpec.upto wordOrderSpec)) wordOrderUptoCard

/-- THE SECOND FORM's CARD OF 'scorialaw04.WordWraps'. -/
def wordWrapsUptoCard : Claim7 := { stood := { row := wordWrapsUptoRow, standIns := [], harness := (true, "0b641b6d81aeb7dc0c7abb9234b572a4d153e962178966034a45d3492bcac14d"), looks := false }, kinds := [], alts := [], laidByText := true, laidKinds := [.funcs], laidTests := true, laidLooks := .later }
def WordWrapsUptoCardSaid : Prop := Claim7.holds Tryd.pinned (.plain (OpenSpec.upto wordWrapsSpec)) wordWrapsUptoCard

/-- THE SECOND FORM's CARD OF 'scorialaw04.WordOps'. -/
def wordOpsUptoCard : Claim7 := { stood := { row := wordOpsUptoRow, standIns := [], harness := (true, "0b641b6d81aeb7dc0c7abb9234b572a4d153e962178966034a45d3492bcac14d"), looks := false }, kinds := [], alts := [], laidByText := true, laidKinds := [.funcs], laidTests := true, laidLooks := .later }
def WordOpsUptoCardSaid : Prop := Claim7.holds Tryd.pinned (.plain (OpenSpec.upto wordOpsSpec)) wordOpsUptoCard
end Rows
end Go.Proofs.YtdpabdlbohdkjaaDoor
