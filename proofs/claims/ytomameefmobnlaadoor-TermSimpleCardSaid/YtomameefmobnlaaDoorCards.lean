/-
  DERIVED. GIVEN WITH THE SEED: THE CARDS: each row of YtomameefmobnlaaDoorRows.lean that lists a variable, with what it lists TIED to the program's text (the seventh form; the later family's looks); each row that meets fmt, with fmt's text TOLD by the authors' own Lean function (tested against real Go, not proved from fmt's source: count such statements apart). THE CARD IS WHAT COUNTS. Prove the row's statement (the work); the ties are given (YtomameefmobnlaaDoorTie.lean); close each card by the builder's one call (the guide's Derived/Test/ToyasCard.lean, 'card_holds'). Laid BY PROGRAM, IN A SANDBOX (cutbox-door.mjs). By AI agents, Wed Nov 11 2026. No macro, syntax, notation, axiom, sorry.
-/
import Derived.Test.YtomameefmobnlaaDoorRows
import GoSem.ClaimSeven
namespace Go.Proofs.YtomameefmobnlaaDoor
namespace Rows

/-- THE TIED CARD OF 'scorialaw20.TermValid'. -/
def termValidCard : Claim7 := { stood := { row := termValidRow, standIns := [], harness := (true, "0f8a3d0176d7d8a454f837d9ebe58485f0b6fa961547bf259d2299741e59d300"), looks := false }, kinds := [], alts := [], laidByText := true, laidKinds := [.funcs], laidTests := true, laidLooks := .later }
def TermValidCardSaid : Prop := Claim7.holds Tryd.pinned (.plain (OpenSpec.ofChange termValidSpec)) termValidCard

/-- THE TIED CARD OF 'scorialaw20.TermEvals'. -/
def termEvalsCard : Claim7 := { stood := { row := termEvalsRow, standIns := [], harness := (true, "0f8a3d0176d7d8a454f837d9ebe58485f0b6fa961547bf259d2299741e59d300"), looks := false }, kinds := [], alts := [], laidByText := true, laidKinds := [.funcs], laidTests := true, laidLooks := .later }
def TermEvalsCardSaid : Prop := Claim7.holds Tryd.pinned (.plain (OpenSpec.ofChange termEvalsSpec)) termEvalsCard

/-- THE TIED CARD OF 'scorialaw20.TermPut'. -/
def termPutCard : Claim7 := { stood := { row := termPutRow, standIns := [], harness := (true, "0f8a3d0176d7d8a454f837d9ebe58485f0b6fa961547bf259d2299741e59d300"), looks := false }, kinds := [], alts := [], laidByText := true, laidKinds := [.funcs], laidTests := true, laidLooks := .later }
def TermPutCardSaid : Prop := Claim7.holds Tryd.pinned (.plain (OpenSpec.ofChange termPutSpec)) termPutCard

/-- THE TIED CARD OF 'scorialaw20.TermParts'. -/
def termPartsCard : Claim7 := { stood := { row := termPartsRow, standIns := [], harness := (true, "0f8a3d0176d7d8a454f837d9ebe58485f0b6fa961547bf259d2299741e59d300"), looks := false }, kinds := [], alts := [], laidByText := true, laidKinds := [.funcs], laidTests := true, laidLooks := .later }
def TermPartsCardSaid : Prop := Claim7.holds Tryd.pinned (.plain (OpenSpec.ofChange termPartsSpec)) termPartsCard

/-- THE TIED CARD OF 'scorialaw20.TermRules'. -/
def termRulesCard : Claim7 := { stood := { row := termRulesRow, standIns := [], harness := (true, "0f8a3d0176d7d8a454f837d9ebe58485f0b6fa961547bf259d2299741e59d300"), looks := false }, kinds := [], alts := [], laidByText := true, laidKinds := [.funcs], laidTests := true, laidLooks := .later }
def TermRulesCardSaid : Prop := Claim7.holds Tryd.pinned (.plain (OpenSpec.ofChange termRulesSpec)) termRulesCard

/-- THE TIED CARD OF 'scorialaw20.TermSimple'. -/
def termSimpleCard : Claim7 := { stood := { row := termSimpleRow, standIns := [], harness := (true, "0f8a3d0176d7d8a454f837d9ebe58485f0b6fa961547bf259d2299741e59d300"), looks := false }, kinds := [], alts := [], laidByText := true, laidKinds := [.funcs], laidTests := true, laidLooks := .later }
def TermSimpleCardSaid : Prop := Claim7.holds Tryd.pinned (.plain (OpenSpec.ofChange termSimpleSpec)) termSimpleCard

/-- THE SECOND FORM's CARD OF 'scorialaw20.TermValid'. -/
def termValidUptoCard : Claim7 := { stood := { row := termValidUptoRow, standIns := [], harness := (true, "0f8a3d0176d7d8a454f837d9ebe58485f0b6fa961547bf259d2299741e59d300"), looks := false }, kinds := [], alts := [], laidByText := true, laidKinds := [.funcs], laidTests := true, laidLooks := .later }
def TermValidUptoCardSaid : Prop := Claim7.holds Tryd.pinned (.plain (OpenSpec.upto termValidSpec)) termValidUptoCard

/-- THE SECOND FORM's CARD OF 'scorialaw20.TermEvals'. -/
def termEvalsUptoCard : Claim7 := { stood := { row := termEvalsUptoRow, standIns := [], harness := (true, "0f8a3d0176d7d8a454f837d9ebe58485f0b6fa961547bf259d2299741e59d300"), looks := false }, kinds := [], alts := [], laidByText := true, laidKinds := [.funcs], laidTests := true, laidLooks := .later }
def TermEvalsUptoCardSaid : Prop := Claim7.holds Tryd.pinned (.plain (OpenSpec.upto termEvalsSpec)) termEvalsUptoCard

/-- THE SECOND FORM's CARD OF 'scorialaw20.TermPut'. -/
def termPutUptoCard : Claim7 := { stood := { row := termPutUptoRow, standIns := [], harness := (true, "0f8a3d0176d7d8a454f837d9ebe58485f0b6fa961547bf259d2299741e59d300"), looks := false }, kinds := [], alts := [], laidByText := true, laidKinds := [.funcs], laidTests := true, laidLooks := .later }
def TermPutUptoCardSaid : Prop := Claim7.holds Tryd.pinned (.plain (OpenSpec.upto termPutSpec)) termPutUptoCard

/-- THE SECOND FORM's CARD OF 'scorialaw20.TermParts'. -/
def termPartsUptoCard : Claim7 := { stood := { row := termPartsUptoRow, standIns := [], harness := (true, "0f8a3d0176d7d8a454f837d9ebe58485f0b6fa961547bf259d2299741e59d300"), looks := false }, kinds := [], alts := [], laidByText := true, laidKinds := [.funcs], laidTests := true, laidLooks := .later }
def TermPartsUptoCardSaid : Prop := Claim7.holds Tryd.pinned (.plain (OpenSpec.upto termPartsSpec)) termPartsUptoCard

/-- THE SECOND FORM's CARD OF 'scorialaw20.TermRules'. -/
def termRulesUptoCard : Claim7 := { stood := { row := termRulesUptoRow, standIns := [], harness := (true, "0f8a3d0176d7d8a454f837d9ebe58485f0b6fa961547bf259d2299741e59d300"), looks := false }, kinds := [], alts := [], laidByText := true, laidKinds := [.funcs], laidTests := true, laidLooks := .later }
def TermRulesUptoCardSaid : Prop := Claim7.holds Tryd.pinned (.plain (OpenSpec.upto termRulesSpec)) termRulesUptoCard

/-- THE SECOND FORM's CARD OF 'scorialaw20.TermSimple'. -/
def termSimpleUptoCard : Claim7 := { stood := { row := termSimpleUptoRow, standIns := [], harness := (true, "0f8a3d0176d7d8a454f837d9ebe58485f0b6fa961547bf259d2299741e59d300"), looks := false }, kinds := [], alts := [], laidByText := true, laidKinds := [.funcs], laidTests := true, laidLooks := .later }
def TermSimpleUptoCardSaid : Prop := Claim7.holds Tryd.pinned (.plain (OpenSpec.upto termSimpleSpec)) termSimpleUptoCard
end Rows
end Go.Proofs.YtomameefmobnlaaDoor
