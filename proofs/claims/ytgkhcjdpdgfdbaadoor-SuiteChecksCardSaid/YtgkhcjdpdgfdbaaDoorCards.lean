/-
  DERIVED. GIVEN WITH THE SEED: THE CARDS: each row of YtgkhcjdpdgfdbaaDoorRows.lean that lists a variable, with what it lists TIED to the program's text (the seventh form; the later family's looks); each row that meets fmt, with fmt's text TOLD by the authors' own Lean function (tested against real Go, not proved from fmt's source: count such statements apart). THE CARD IS WHAT COUNTS. Prove the row's statement (the work); the ties are given (YtgkhcjdpdgfdbaaDoorTie.lean); close each card by the builder's one call (the guide's Derived/Test/ToyasCard.lean, 'card_holds'). Laid BY PROGRAM, IN A SANDBOX (cutbox-door.mjs). By AI agents, Wed Nov 11 2026. No macro, syntax, notation, axiom, sorry.
-/
import Derived.Test.YtgkhcjdpdgfdbaaDoorRows
import GoSem.ClaimSeven
namespace Go.Proofs.YtgkhcjdpdgfdbaaDoor
namespace Rows

/-- THE TIED CARD OF 'scorialaw37.SuiteLeast'. -/
def suiteLeastCard : Claim7 := { stood := { row := suiteLeastRow, standIns := [], harness := (true, "a3a56ccb93a58f3bf0452419a51bd424d895f6ab64cb43261e4e29b694751a68"), looks := false }, kinds := [], alts := [], laidByText := true, laidKinds := [.data, .data], laidTests := true, laidLooks := .later }
def SuiteLeastCardSaid : Prop := Claim7.holds Tryd.pinned (.plain (OpenSpec.ofChange suiteLeastSpec)) suiteLeastCard

/-- THE TIED CARD OF 'scorialaw37.SuiteChecks'. -/
def suiteChecksCard : Claim7 := { stood := { row := suiteChecksRow, standIns := [], harness := (true, "a3a56ccb93a58f3bf0452419a51bd424d895f6ab64cb43261e4e29b694751a68"), looks := false }, kinds := [], alts := [], laidByText := true, laidKinds := [.data, .data], laidTests := true, laidLooks := .later }
def SuiteChecksCardSaid : Prop := Claim7.holds Tryd.pinned (.plain (OpenSpec.ofChange suiteChecksSpec)) suiteChecksCard

/-- THE TIED CARD OF 'scorialaw37.SuiteGreedy'. -/
def suiteGreedyCard : Claim7 := { stood := { row := suiteGreedyRow, standIns := [], harness := (true, "a3a56ccb93a58f3bf0452419a51bd424d895f6ab64cb43261e4e29b694751a68"), looks := false }, kinds := [], alts := [], laidByText := true, laidKinds := [.data, .data], laidTests := true, laidLooks := .later }
def SuiteGreedyCardSaid : Prop := Claim7.holds Tryd.pinned (.plain (OpenSpec.ofChange suiteGreedySpec)) suiteGreedyCard

/-- THE TIED CARD OF 'scorialaw37.SuiteShown'. -/
def suiteShownCard : Claim7 := { stood := { row := suiteShownRow, standIns := [], harness := (true, "a3a56ccb93a58f3bf0452419a51bd424d895f6ab64cb43261e4e29b694751a68"), looks := false }, kinds := [], alts := [], laidByText := true, laidKinds := [.data, .data], laidTests := true, laidLooks := .later }
def SuiteShownCardSaid : Prop := Claim7.holds Tryd.pinned (.plain (OpenSpec.ofChange suiteShownSpec)) suiteShownCard

/-- THE TIED CARD OF 'scorialaw37.SuiteRows'. -/
def suiteRowsCard : Claim7 := { stood := { row := suiteRowsRow, standIns := [], harness := (true, "a3a56ccb93a58f3bf0452419a51bd424d895f6ab64cb43261e4e29b694751a68"), looks := false }, kinds := [], alts := [], laidByText := true, laidKinds := [.data, .data], laidTests := true, laidLooks := .later }
def SuiteRowsCardSaid : Prop := Claim7.holds Tryd.pinned (.plain (OpenSpec.ofChange suiteRowsSpec)) suiteRowsCard

/-- THE TIED CARD OF 'scorialaw37.SuiteMore'. -/
def suiteMoreCard : Claim7 := { stood := { row := suiteMoreRow, standIns := [], harness := (true, "a3a56ccb93a58f3bf0452419a51bd424d895f6ab64cb43261e4e29b694751a68"), looks := false }, kinds := [], alts := [], laidByText := true, laidKinds := [.data, .data], laidTests := true, laidLooks := .later }
def SuiteMoreCardSaid : Prop := Claim7.holds Tryd.pinned (.plain (OpenSpec.ofChange suiteMoreSpec)) suiteMoreCard

/-- THE SECOND FORM's CARD OF 'scorialaw37.SuiteLeast'. -/
def suiteLeastUptoCard : Claim7 := { stood := { row := suiteLeastUptoRow, standIns := [], harness := (true, "a3a56ccb93a58f3bf0452419a51bd424d895f6ab64cb43261e4e29b694751a68"), looks := false }, kinds := [], alts := [], laidByText := true, laidKinds := [.data, .data], laidTests := true, laidLooks := .later }
def SuiteLeastUptoCardSaid : Prop := Claim7.holds Tryd.pinned (.plain (OpenSpec.upto suiteLeastSpec)) suiteLeastUptoCard

/-- THE SECOND FORM's CARD OF 'scorialaw37.SuiteChecks'. -/
def suiteChecksUptoCard : Claim7 := { stood := { row := suiteChecksUptoRow, standIns := [], harness := (true, "a3a56ccb93a58f3bf0452419a51bd424d895f6ab64cb43261e4e29b694751a68"), looks := false }, kinds := [], alts := [], laidByText := true, laidKinds := [.data, .data], laidTests := true, laidLooks := .later }
def SuiteChecksUptoCardSaid : Prop := Claim7.holds Tryd.pinned (.plain (OpenSpec.upto suiteChecksSpec)) suiteChecksUptoCard

/-- THE SECOND FORM's CARD OF 'scorialaw37.SuiteGreedy'. -/
def suiteGreedyUptoCard : Claim7 := { stood := { row := suiteGreedyUptoRow, standIns := [], harness := (true, "a3a56ccb93a58f3bf0452419a51bd424d895f6ab64cb43261e4e29b694751a68"), looks := false }, kinds := [], alts := [], laidByText := true, laidKinds := [.data, .data], laidTests := true, laidLooks := .later }
def SuiteGreedyUptoCardSaid : Prop := Claim7.holds Tryd.pinned (.plain (OpenSpec.upto suiteGreedySpec)) suiteGreedyUptoCard

/-- THE SECOND FORM's CARD OF 'scorialaw37.SuiteShown'. -/
def suiteShownUptoCard : Claim7 := { stood := { row := suiteShownUptoRow, standIns := [], harness := (true, "a3a56ccb93a58f3bf0452419a51bd424d895f6ab64cb43261e4e29b694751a68"), looks := false }, kinds := [], alts := [], laidByText := true, laidKinds := [.data, .data], laidTests := true, laidLooks := .later }
def SuiteShownUptoCardSaid : Prop := Claim7.holds Tryd.pinned (.plain (OpenSpec.upto suiteShownSpec)) suiteShownUptoCard

/-- THE SECOND FORM's CARD OF 'scorialaw37.SuiteRows'. -/
def suiteRowsUptoCard : Claim7 := { stood := { row := suiteRowsUptoRow, standIns := [], harness := (true, "a3a56ccb93a58f3bf0452419a51bd424d895f6ab64cb43261e4e29b694751a68"), looks := false }, kinds := [], alts := [], laidByText := true, laidKinds := [.data, .data], laidTests := true, laidLooks := .later }
def SuiteRowsUptoCardSaid : Prop := Claim7.holds Tryd.pinned (.plain (OpenSpec.upto suiteRowsSpec)) suiteRowsUptoCard

/-- THE SECOND FORM's CARD OF 'scorialaw37.SuiteMore'. -/
def suiteMoreUptoCard : Claim7 := { stood := { row := suiteMoreUptoRow, standIns := [], harness := (true, "a3a56ccb93a58f3bf0452419a51bd424d895f6ab64cb43261e4e29b694751a68"), looks := false }, kinds := [], alts := [], laidByText := true, laidKinds := [.data, .data], laidTests := true, laidLooks := .later }
def SuiteMoreUptoCardSaid : Prop := Claim7.holds Tryd.pinned (.plain (OpenSpec.upto suiteMoreSpec)) suiteMoreUptoCard
end Rows
end Go.Proofs.YtgkhcjdpdgfdbaaDoor
