/-
  NARROWER THAN 'FOR EVERY INPUT', by the rows' own cells (each row's printed sentence says how): TermValid: loops, laid · TermEvals: laid · TermPut: laid · TermParts: laid · TermRules: laid · TermSimple: laid.
  DERIVED. THE GIVEN ROWS OF THIS SEAT. 6 by the template 'for every input the law returns true; each argument reads behind the call as it read before'; 0 by the template 'total and deterministic' (their statements: YtomameefmobnlaaDoorTotals.lean).
  GIVEN WITH THE SEED: the statements are not yours to turn. If you find one false, say at which input.
  Laid BY PROGRAM, IN A SANDBOX (cutbox-rows.mjs): the forced cells as the released guide's own fill.sh prints them over the translation 09a4822c1eaf29e4… (all of the seat's roots in one cut). By AI agents, Wed Nov 11 2026. No macro, syntax, notation, axiom, sorry.
-/
import Derived.Test.YtomameefmobnlaaDoorChecked
import GoSem.Claim
import GoSem.ClaimJoined
import GoSem.ClaimMapViews
import Derived.JoinedTies
import Derived.KernelRfl
namespace Go.Proofs.YtomameefmobnlaaDoor
/- THE CELL 'sum', in the pinned program and in every row, IS THE sha256 OF THE DUMP (.gsa) THAT YtomameefmobnlaaDoorProg.lean LOADS. Nothing in Lean hashes anything: it is a label: what it is worth is what the hold of that sum in a sandbox is worth. -/
noncomputable def Tryd.pinned : Pinned := { name := "ytomameefmobnlaadoor", sum := "09a4822c1eaf29e4c02b97def2d8a243933edcbc123470b0b8710e760991f72a", checked := Tryd.checked }
namespace Rows
def none {H : Type} : Left H := { results := [], args := [] }

/- WHAT THE LISTED PACKAGE-LEVEL VARIABLES READ AS WHEN THE CALL BEGINS. Each datum BY PROGRAM (the guide's laid-datum.mjs) off the statement by which the dump's own 'gosem.cut.vars' lays the variable. In a bare row this is a premise. The card (YtomameefmobnlaaDoorCards.lean) ties it to the program's text. -/
def laid_scoria_word_operations {H : Type} : DataW H := .iface "func table" (.agg [.agg [.iface "func" (.lit (.string [115, 99, 111, 114, 105, 97, 47, 119, 111, 114, 100, 46, 111, 112, 101, 114, 97, 116, 105, 111, 110, 115, 36, 49])), .lit (.bool false), .lit (.bool false)], .agg [.iface "func" (.lit (.string [115, 99, 111, 114, 105, 97, 47, 119, 111, 114, 100, 46, 111, 112, 101, 114, 97, 116, 105, 111, 110, 115, 36, 50])), .lit (.bool false), .lit (.bool false)], .agg [.iface "func" (.lit (.string [115, 99, 111, 114, 105, 97, 47, 119, 111, 114, 100, 46, 111, 112, 101, 114, 97, 116, 105, 111, 110, 115, 36, 51])), .lit (.bool false), .lit (.bool false)], .agg [.iface "func" (.lit (.string [115, 99, 111, 114, 105, 97, 47, 119, 111, 114, 100, 46, 111, 112, 101, 114, 97, 116, 105, 111, 110, 115, 36, 52])), .lit (.bool true), .lit (.bool false)], .agg [.iface "func" (.lit (.string [115, 99, 111, 114, 105, 97, 47, 119, 111, 114, 100, 46, 111, 112, 101, 114, 97, 116, 105, 111, 110, 115, 36, 53])), .lit (.bool true), .lit (.bool false)], .agg [.iface "func" (.lit (.string [115, 99, 111, 114, 105, 97, 47, 119, 111, 114, 100, 46, 111, 112, 101, 114, 97, 116, 105, 111, 110, 115, 36, 54])), .lit (.bool false), .lit (.bool false)], .agg [.iface "func" (.lit (.string [115, 99, 111, 114, 105, 97, 47, 119, 111, 114, 100, 46, 111, 112, 101, 114, 97, 116, 105, 111, 110, 115, 36, 55])), .lit (.bool false), .lit (.bool false)], .agg [.iface "func" (.lit (.string [115, 99, 111, 114, 105, 97, 47, 119, 111, 114, 100, 46, 111, 112, 101, 114, 97, 116, 105, 111, 110, 115, 36, 56])), .lit (.bool false), .lit (.bool false)], .agg [.iface "func" (.lit (.string [115, 99, 111, 114, 105, 97, 47, 119, 111, 114, 100, 46, 111, 112, 101, 114, 97, 116, 105, 111, 110, 115, 36, 57])), .lit (.bool false), .lit (.bool false)], .agg [.iface "func" (.lit (.string [115, 99, 111, 114, 105, 97, 47, 119, 111, 114, 100, 46, 111, 112, 101, 114, 97, 116, 105, 111, 110, 115, 36, 49, 48])), .lit (.bool false), .lit (.bool false)], .agg [.iface "func" (.lit (.string [115, 99, 111, 114, 105, 97, 47, 119, 111, 114, 100, 46, 111, 112, 101, 114, 97, 116, 105, 111, 110, 115, 36, 49, 49])), .lit (.bool false), .lit (.bool true)], .agg [.iface "func" (.lit (.string [115, 99, 111, 114, 105, 97, 47, 119, 111, 114, 100, 46, 111, 112, 101, 114, 97, 116, 105, 111, 110, 115, 36, 49, 50])), .lit (.bool false), .lit (.bool true)], .agg [.iface "func" (.lit (.string [115, 99, 111, 114, 105, 97, 47, 119, 111, 114, 100, 46, 111, 112, 101, 114, 97, 116, 105, 111, 110, 115, 36, 49, 51])), .lit (.bool false), .lit (.bool true)], .agg [.iface "func" (.lit (.string [115, 99, 111, 114, 105, 97, 47, 119, 111, 114, 100, 46, 111, 112, 101, 114, 97, 116, 105, 111, 110, 115, 36, 49, 52])), .lit (.bool false), .lit (.bool true)]])

/-- 'scorialaw20.TermValid': WHATEVER THE INPUT: true; the input reads as it did. -/
def termValidSpec : ChangeSpec := { name := "termValid", fn := fun _ => fun
  | [d1, d2, d3, d4, d5, d6] => { results := [.lit (.bool true)], args := [d1, d2, d3, d4, d5, d6] }
  | _ => none }
def termValidRow : OpenClaim := { program := "ytomameefmobnlaadoor", sum := "09a4822c1eaf29e4c02b97def2d8a243933edcbc123470b0b8710e760991f72a", func := "scoria/scorialaw20.TermValid", spec := "termValid", unfollowed := true, recurses := true, named := ["scoria/word.operations"], loops := true, apart := false, laid := [("scoria/word.operations", laid_scoria_word_operations)] }
def TermValidSaid : Prop := termValidRow.holds Tryd.pinned (OpenSpec.ofChange termValidSpec)

/-- ITS FALSE NEIGHBOUR: 'it returns false'. Refute it at one input. -/
def termValidWrong : ChangeSpec := { name := "termValid", fn := fun _ => fun
  | [d1, d2, d3, d4, d5, d6] => { results := [.lit (.bool false)], args := [d1, d2, d3, d4, d5, d6] }
  | _ => none }
def TermValidWrongFalsely : Prop := termValidRow.holds Tryd.pinned (OpenSpec.ofChange termValidWrong)

/-- 'scorialaw20.TermEvals': WHATEVER THE INPUT: true; the input reads as it did. -/
def termEvalsSpec : ChangeSpec := { name := "termEvals", fn := fun _ => fun
  | [d1, d2, d3, d4] => { results := [.lit (.bool true)], args := [d1, d2, d3, d4] }
  | _ => none }
def termEvalsRow : OpenClaim := { program := "ytomameefmobnlaadoor", sum := "09a4822c1eaf29e4c02b97def2d8a243933edcbc123470b0b8710e760991f72a", func := "scoria/scorialaw20.TermEvals", spec := "termEvals", unfollowed := true, recurses := true, named := ["scoria/word.operations"], apart := false, laid := [("scoria/word.operations", laid_scoria_word_operations)] }
def TermEvalsSaid : Prop := termEvalsRow.holds Tryd.pinned (OpenSpec.ofChange termEvalsSpec)

/-- ITS FALSE NEIGHBOUR: 'it returns false'. Refute it at one input. -/
def termEvalsWrong : ChangeSpec := { name := "termEvals", fn := fun _ => fun
  | [d1, d2, d3, d4] => { results := [.lit (.bool false)], args := [d1, d2, d3, d4] }
  | _ => none }
def TermEvalsWrongFalsely : Prop := termEvalsRow.holds Tryd.pinned (OpenSpec.ofChange termEvalsWrong)

/-- 'scorialaw20.TermPut': WHATEVER THE INPUT: true; the input reads as it did. -/
def termPutSpec : ChangeSpec := { name := "termPut", fn := fun _ => fun
  | [d1, d2, d3, d4, d5, d6] => { results := [.lit (.bool true)], args := [d1, d2, d3, d4, d5, d6] }
  | _ => none }
def termPutRow : OpenClaim := { program := "ytomameefmobnlaadoor", sum := "09a4822c1eaf29e4c02b97def2d8a243933edcbc123470b0b8710e760991f72a", func := "scoria/scorialaw20.TermPut", spec := "termPut", unfollowed := true, recurses := true, named := ["scoria/word.operations"], apart := false, laid := [("scoria/word.operations", laid_scoria_word_operations)] }
def TermPutSaid : Prop := termPutRow.holds Tryd.pinned (OpenSpec.ofChange termPutSpec)

/-- ITS FALSE NEIGHBOUR: 'it returns false'. Refute it at one input. -/
def termPutWrong : ChangeSpec := { name := "termPut", fn := fun _ => fun
  | [d1, d2, d3, d4, d5, d6] => { results := [.lit (.bool false)], args := [d1, d2, d3, d4, d5, d6] }
  | _ => none }
def TermPutWrongFalsely : Prop := termPutRow.holds Tryd.pinned (OpenSpec.ofChange termPutWrong)

/-- 'scorialaw20.TermParts': WHATEVER THE INPUT: true; the input reads as it did. -/
def termPartsSpec : ChangeSpec := { name := "termParts", fn := fun _ => fun
  | [d1, d2, d3, d4, d5] => { results := [.lit (.bool true)], args := [d1, d2, d3, d4, d5] }
  | _ => none }
def termPartsRow : OpenClaim := { program := "ytomameefmobnlaadoor", sum := "09a4822c1eaf29e4c02b97def2d8a243933edcbc123470b0b8710e760991f72a", func := "scoria/scorialaw20.TermParts", spec := "termParts", unfollowed := true, recurses := true, named := ["scoria/word.operations"], apart := false, laid := [("scoria/word.operations", laid_scoria_word_operations)] }
def TermPartsSaid : Prop := termPartsRow.holds Tryd.pinned (OpenSpec.ofChange termPartsSpec)

/-- ITS FALSE NEIGHBOUR: 'it returns false'. Refute it at one input. -/
def termPartsWrong : ChangeSpec := { name := "termParts", fn := fun _ => fun
  | [d1, d2, d3, d4, d5] => { results := [.lit (.bool false)], args := [d1, d2, d3, d4, d5] }
  | _ => none }
def TermPartsWrongFalsely : Prop := termPartsRow.holds Tryd.pinned (OpenSpec.ofChange termPartsWrong)

/-- 'scorialaw20.TermRules': WHATEVER THE INPUT: true; the input reads as it did. -/
def termRulesSpec : ChangeSpec := { name := "termRules", fn := fun _ => fun
  | [d1, d2, d3, d4, d5, d6] => { results := [.lit (.bool true)], args := [d1, d2, d3, d4, d5, d6] }
  | _ => none }
def termRulesRow : OpenClaim := { program := "ytomameefmobnlaadoor", sum := "09a4822c1eaf29e4c02b97def2d8a243933edcbc123470b0b8710e760991f72a", func := "scoria/scorialaw20.TermRules", spec := "termRules", unfollowed := true, recurses := true, named := ["scoria/word.operations"], apart := false, laid := [("scoria/word.operations", laid_scoria_word_operations)] }
def TermRulesSaid : Prop := termRulesRow.holds Tryd.pinned (OpenSpec.ofChange termRulesSpec)

/-- ITS FALSE NEIGHBOUR: 'it returns false'. Refute it at one input. -/
def termRulesWrong : ChangeSpec := { name := "termRules", fn := fun _ => fun
  | [d1, d2, d3, d4, d5, d6] => { results := [.lit (.bool false)], args := [d1, d2, d3, d4, d5, d6] }
  | _ => none }
def TermRulesWrongFalsely : Prop := termRulesRow.holds Tryd.pinned (OpenSpec.ofChange termRulesWrong)

/-- 'scorialaw20.TermSimple': WHATEVER THE INPUT: true; the input reads as it did. -/
def termSimpleSpec : ChangeSpec := { name := "termSimple", fn := fun _ => fun
  | [d1, d2, d3] => { results := [.lit (.bool true)], args := [d1, d2, d3] }
  | _ => none }
def termSimpleRow : OpenClaim := { program := "ytomameefmobnlaadoor", sum := "09a4822c1eaf29e4c02b97def2d8a243933edcbc123470b0b8710e760991f72a", func := "scoria/scorialaw20.TermSimple", spec := "termSimple", unfollowed := true, recurses := true, named := ["scoria/word.operations"], apart := false, laid := [("scoria/word.operations", laid_scoria_word_operations)] }
def TermSimpleSaid : Prop := termSimpleRow.holds Tryd.pinned (OpenSpec.ofChange termSimpleSpec)

/-- ITS FALSE NEIGHBOUR: 'it returns false'. Refute it at one input. -/
def termSimpleWrong : ChangeSpec := { name := "termSimple", fn := fun _ => fun
  | [d1, d2, d3] => { results := [.lit (.bool false)], args := [d1, d2, d3] }
  | _ => none }
def TermSimpleWrongFalsely : Prop := termSimpleRow.holds Tryd.pinned (OpenSpec.ofChange termSimpleWrong)

/- THE SECOND FORM. 'bulk': how many values and letters a reading holds, each counted each time it is reached (what is shared counts as often as it is met; a slice's spare places count too). A statement '..UptoSaid' is the law's where the arguments, and the package variables that the reading takes, are together of bulk at most 1048576: NARROWER than '..Said'. Prove '..Said' where nothing that the law and all that it calls make is longer than what came in: it says more and counts as full. Else prove '..UptoSaid'. A law counts once. -/
mutual
def uptoBulk {H : Type} : DataW H → Nat
  | .lit (.string bytes) => bytes.length + 1
  | .lit _ => 1
  | .nil => 1
  | .ptr d => uptoBulk d + 1
  | .slice elems spare => uptoBulkAll elems + uptoBulkAll spare + 1
  | .agg parts => uptoBulkAll parts + 1
  | .iface _ d => uptoBulk d + 1
  | .map entries => uptoBulkEntries entries + 1
  | .held _ => 1
def uptoBulkAll {H : Type} : List (DataW H) → Nat
  | [] => 0
  | d :: r => uptoBulk d + uptoBulkAll r
def uptoBulkEntries {H : Type} : List (Lit × DataW H) → Nat
  | [] => 0
  | x :: r => uptoBulkEntry x + uptoBulkEntries r
def uptoBulkEntry {H : Type} : Lit × DataW H → Nat
  | (.string bytes, d) => bytes.length + uptoBulk d + 1
  | (_, d) => uptoBulk d + 1
 end
def uptoSmall : (H : Type) → List (DataW H) → Bool := fun _ ds => decide (uptoBulkAll ds ≤ 1048576)
def OpenSpec.upto (s : _root_.Go.ChangeSpec) : _root_.Go.OpenSpec := { _root_.Go.OpenSpec.ofChange s with cond := some uptoSmall }

/-- 'scorialaw20.TermValid', WHERE WHAT IT READS IS OF BULK AT MOST 1048576: true; the input reads as it did. -/
def termValidUptoRow : OpenClaim := { program := "ytomameefmobnlaadoor", sum := "09a4822c1eaf29e4c02b97def2d8a243933edcbc123470b0b8710e760991f72a", func := "scoria/scorialaw20.TermValid", spec := "termValid", unfollowed := true, recurses := true, named := ["scoria/word.operations"], loops := true, apart := false, laid := [("scoria/word.operations", laid_scoria_word_operations)], narrowed := true }
def TermValidUptoSaid : Prop := termValidUptoRow.holds Tryd.pinned (OpenSpec.upto termValidSpec)

/-- 'scorialaw20.TermEvals', WHERE WHAT IT READS IS OF BULK AT MOST 1048576: true; the input reads as it did. -/
def termEvalsUptoRow : OpenClaim := { program := "ytomameefmobnlaadoor", sum := "09a4822c1eaf29e4c02b97def2d8a243933edcbc123470b0b8710e760991f72a", func := "scoria/scorialaw20.TermEvals", spec := "termEvals", unfollowed := true, recurses := true, named := ["scoria/word.operations"], apart := false, laid := [("scoria/word.operations", laid_scoria_word_operations)], narrowed := true }
def TermEvalsUptoSaid : Prop := termEvalsUptoRow.holds Tryd.pinned (OpenSpec.upto termEvalsSpec)

/-- 'scorialaw20.TermPut', WHERE WHAT IT READS IS OF BULK AT MOST 1048576: true; the input reads as it did. -/
def termPutUptoRow : OpenClaim := { program := "ytomameefmobnlaadoor", sum := "09a4822c1eaf29e4c02b97def2d8a243933edcbc123470b0b8710e760991f72a", func := "scoria/scorialaw20.TermPut", spec := "termPut", unfollowed := true, recurses := true, named := ["scoria/word.operations"], apart := false, laid := [("scoria/word.operations", laid_scoria_word_operations)], narrowed := true }
def TermPutUptoSaid : Prop := termPutUptoRow.holds Tryd.pinned (OpenSpec.upto termPutSpec)

/-- 'scorialaw20.TermParts', WHERE WHAT IT READS IS OF BULK AT MOST 1048576: true; the input reads as it did. -/
def termPartsUptoRow : OpenClaim := { program := "ytomameefmobnlaadoor", sum := "09a4822c1eaf29e4c02b97def2d8a243933edcbc123470b0b8710e760991f72a", func := "scoria/scorialaw20.TermParts", spec := "termParts", unfollowed := true, recurses := true, named := ["scoria/word.operations"], apart := false, laid := [("scoria/word.operations", laid_scoria_word_operations)], narrowed := true }
def TermPartsUptoSaid : Prop := termPartsUptoRow.holds Tryd.pinned (OpenSpec.upto termPartsSpec)

/-- 'scorialaw20.TermRules', WHERE WHAT IT READS IS OF BULK AT MOST 1048576: true; the input reads as it did. -/
def termRulesUptoRow : OpenClaim := { program := "ytomameefmobnlaadoor", sum := "09a4822c1eaf29e4c02b97def2d8a243933edcbc123470b0b8710e760991f72a", func := "scoria/scorialaw20.TermRules", spec := "termRules", unfollowed := true, recurses := true, named := ["scoria/word.operations"], apart := false, laid := [("scoria/word.operations", laid_scoria_word_operations)], narrowed := true }
def TermRulesUptoSaid : Prop := termRulesUptoRow.holds Tryd.pinned (OpenSpec.upto termRulesSpec)

/-- 'scorialaw20.TermSimple', WHERE WHAT IT READS IS OF BULK AT MOST 1048576: true; the input reads as it did. -/
def termSimpleUptoRow : OpenClaim := { program := "ytomameefmobnlaadoor", sum := "09a4822c1eaf29e4c02b97def2d8a243933edcbc123470b0b8710e760991f72a", func := "scoria/scorialaw20.TermSimple", spec := "termSimple", unfollowed := true, recurses := true, named := ["scoria/word.operations"], apart := false, laid := [("scoria/word.operations", laid_scoria_word_operations)], narrowed := true }
def TermSimpleUptoSaid : Prop := termSimpleUptoRow.holds Tryd.pinned (OpenSpec.upto termSimpleSpec)

end Rows
end Go.Proofs.YtomameefmobnlaaDoor
