/-
  NARROWER THAN 'FOR EVERY INPUT', by the rows' own cells (each row's printed sentence says how): WordRing: laid · WordDivides: laid · WordBits: laid · WordOrder: laid · WordWraps: laid · WordOps: laid.
  DERIVED. THE GIVEN ROWS OF THIS SEAT. 6 by the template 'for every input the law returns true; each argument reads behind the call as it read before'; 0 by the template 'total and deterministic' (their statements: YtdpabdlbohdkjaaDoorTotals.lean).
  GIVEN WITH THE SEED: the statements are not yours to turn. If you find one false, say at which input.
  Laid BY PROGRAM, IN A SANDBOX (cutbox-rows.mjs): the forced cells as the released guide's own fill.sh prints them over the translation 004472affca24e21… (all of the seat's roots in one cut). By AI agents, Wed Nov 11 2026. No macro, syntax, notation, axiom, sorry.
-/
import Derived.Test.YtdpabdlbohdkjaaDoorChecked
import GoSem.Claim
import GoSem.ClaimJoined
import GoSem.ClaimMapViews
import Derived.JoinedTies
import Derived.KernelRfl
namespace Go.Proofs.YtdpabdlbohdkjaaDoor
/- THE CELL 'sum', in the pinned program and in every row, IS THE sha256 OF THE DUMP (.gsa) THAT YtdpabdlbohdkjaaDoorProg.lean LOADS. Nothing in Lean hashes anything: it is a label: what it is worth is what the hold of that sum in a sandbox is worth. -/
noncomputable def Tryd.pinned : Pinned := { name := "ytdpabdlbohdkjaadoor", sum := "004472affca24e21a80df3589a301ff1c87bf40c4c7a6545281446fd6ba4ac7d", checked := Tryd.checked }
namespace Rows
def none {H : Type} : Left H := { results := [], args := [] }

/- WHAT THE LISTED PACKAGE-LEVEL VARIABLES READ AS WHEN THE CALL BEGINS. Each datum BY PROGRAM (the guide's laid-datum.mjs) off the statement by which the dump's own 'gosem.cut.vars' lays the variable. In a bare row this is a premise. The card (YtdpabdlbohdkjaaDoorCards.lean) ties it to the program's text. -/
def laid_scoria_word_operations {H : Type} : DataW H := .iface "func table" (.agg [.agg [.iface "func" (.lit (.string [115, 99, 111, 114, 105, 97, 47, 119, 111, 114, 100, 46, 111, 112, 101, 114, 97, 116, 105, 111, 110, 115, 36, 49])), .lit (.bool false), .lit (.bool false)], .agg [.iface "func" (.lit (.string [115, 99, 111, 114, 105, 97, 47, 119, 111, 114, 100, 46, 111, 112, 101, 114, 97, 116, 105, 111, 110, 115, 36, 50])), .lit (.bool false), .lit (.bool false)], .agg [.iface "func" (.lit (.string [115, 99, 111, 114, 105, 97, 47, 119, 111, 114, 100, 46, 111, 112, 101, 114, 97, 116, 105, 111, 110, 115, 36, 51])), .lit (.bool false), .lit (.bool false)], .agg [.iface "func" (.lit (.string [115, 99, 111, 114, 105, 97, 47, 119, 111, 114, 100, 46, 111, 112, 101, 114, 97, 116, 105, 111, 110, 115, 36, 52])), .lit (.bool true), .lit (.bool false)], .agg [.iface "func" (.lit (.string [115, 99, 111, 114, 105, 97, 47, 119, 111, 114, 100, 46, 111, 112, 101, 114, 97, 116, 105, 111, 110, 115, 36, 53])), .lit (.bool true), .lit (.bool false)], .agg [.iface "func" (.lit (.string [115, 99, 111, 114, 105, 97, 47, 119, 111, 114, 100, 46, 111, 112, 101, 114, 97, 116, 105, 111, 110, 115, 36, 54])), .lit (.bool false), .lit (.bool false)], .agg [.iface "func" (.lit (.string [115, 99, 111, 114, 105, 97, 47, 119, 111, 114, 100, 46, 111, 112, 101, 114, 97, 116, 105, 111, 110, 115, 36, 55])), .lit (.bool false), .lit (.bool false)], .agg [.iface "func" (.lit (.string [115, 99, 111, 114, 105, 97, 47, 119, 111, 114, 100, 46, 111, 112, 101, 114, 97, 116, 105, 111, 110, 115, 36, 56])), .lit (.bool false), .lit (.bool false)], .agg [.iface "func" (.lit (.string [115, 99, 111, 114, 105, 97, 47, 119, 111, 114, 100, 46, 111, 112, 101, 114, 97, 116, 105, 111, 110, 115, 36, 57])), .lit (.bool false), .lit (.bool false)], .agg [.iface "func" (.lit (.string [115, 99, 111, 114, 105, 97, 47, 119, 111, 114, 100, 46, 111, 112, 101, 114, 97, 116, 105, 111, 110, 115, 36, 49, 48])), .lit (.bool false), .lit (.bool false)], .agg [.iface "func" (.lit (.string [115, 99, 111, 114, 105, 97, 47, 119, 111, 114, 100, 46, 111, 112, 101, 114, 97, 116, 105, 111, 110, 115, 36, 49, 49])), .lit (.bool false), .lit (.bool true)], .agg [.iface "func" (.lit (.string [115, 99, 111, 114, 105, 97, 47, 119, 111, 114, 100, 46, 111, 112, 101, 114, 97, 116, 105, 111, 110, 115, 36, 49, 50])), .lit (.bool false), .lit (.bool true)], .agg [.iface "func" (.lit (.string [115, 99, 111, 114, 105, 97, 47, 119, 111, 114, 100, 46, 111, 112, 101, 114, 97, 116, 105, 111, 110, 115, 36, 49, 51])), .lit (.bool false), .lit (.bool true)], .agg [.iface "func" (.lit (.string [115, 99, 111, 114, 105, 97, 47, 119, 111, 114, 100, 46, 111, 112, 101, 114, 97, 116, 105, 111, 110, 115, 36, 49, 52])), .lit (.bool false), .lit (.bool true)]])

/-- 'scorialaw04.WordRing': WHATEVER THE INPUT: true; the input reads as it did. -/
def wordRingSpec : ChangeSpec := { name := "wordRing", fn := fun _ => fun
  | [d1, d2, d3] => { results := [.lit (.bool true)], args := [d1, d2, d3] }
  | _ => none }
def wordRingRow : OpenClaim := { program := "ytdpabdlbohdkjaadoor", sum := "004472affca24e21a80df3589a301ff1c87bf40c4c7a6545281446fd6ba4ac7d", func := "scoria/scorialaw04.WordRing", spec := "wordRing", unfollowed := true, recurses := true, named := ["scoria/word.operations"], apart := false, laid := [("scoria/word.operations", laid_scoria_word_operations)] }
def WordRingSaid : Prop := wordRingRow.holds Tryd.pinned (OpenSpec.ofChange wordRingSpec)

/-- ITS FALSE NEIGHBOUR: 'it returns false'. Refute it at one input. -/
def wordRingWrong : ChangeSpec := { name := "wordRing", fn := fun _ => fun
  | [d1, d2, d3] => { results := [.lit (.bool false)], args := [d1, d2, d3] }
  | _ => none }
def WordRingWrongFalsely : Prop := wordRingRow.holds Tryd.pinned (OpenSpec.ofChange wordRingWrong)

/-- 'scorialaw04.WordDivides': WHATEVER THE INPUT: true; the input reads as it did. -/
def wordDividesSpec : ChangeSpec := { name := "wordDivides", fn := fun _ => fun
  | [d1, d2] => { results := [.lit (.bool true)], args := [d1, d2] }
  | _ => none }
def wordDividesRow : OpenClaim := { program := "ytdpabdlbohdkjaadoor", sum := "004472affca24e21a80df3589a301ff1c87bf40c4c7a6545281446fd6ba4ac7d", func := "scoria/scorialaw04.WordDivides", spec := "wordDivides", unfollowed := true, recurses := true, named := ["scoria/word.operations"], apart := false, laid := [("scoria/word.operations", laid_scoria_word_operations)] }
def WordDividesSaid : Prop := wordDividesRow.holds Tryd.pinned (OpenSpec.ofChange wordDividesSpec)

/-- ITS FALSE NEIGHBOUR: 'it returns false'. Refute it at one input. -/
def wordDividesWrong : ChangeSpec := { name := "wordDivides", fn := fun _ => fun
  | [d1, d2] => { results := [.lit (.bool false)], args := [d1, d2] }
  | _ => none }
def WordDividesWrongFalsely : Prop := wordDividesRow.holds Tryd.pinned (OpenSpec.ofChange wordDividesWrong)

/-- 'scorialaw04.WordBits': WHATEVER THE INPUT: true; the input reads as it did. -/
def wordBitsSpec : ChangeSpec := { name := "wordBits", fn := fun _ => fun
  | [d1, d2] => { results := [.lit (.bool true)], args := [d1, d2] }
  | _ => none }
def wordBitsRow : OpenClaim := { program := "ytdpabdlbohdkjaadoor", sum := "004472affca24e21a80df3589a301ff1c87bf40c4c7a6545281446fd6ba4ac7d", func := "scoria/scorialaw04.WordBits", spec := "wordBits", unfollowed := true, recurses := true, named := ["scoria/word.operations"], apart := false, laid := [("scoria/word.operations", laid_scoria_word_operations)] }
def WordBitsSaid : Prop := wordBitsRow.holds Tryd.pinned (OpenSpec.ofChange wordBitsSpec)

/-- ITS FALSE NEIGHBOUR: 'it returns false'. Refute it at one input. -/
def wordBitsWrong : ChangeSpec := { name := "wordBits", fn := fun _ => fun
  | [d1, d2] => { results := [.lit (.bool false)], args := [d1, d2] }
  | _ => none }
def WordBitsWrongFalsely : Prop := wordBitsRow.holds Tryd.pinned (OpenSpec.ofChange wordBitsWrong)

/-- 'scorialaw04.WordOrder': WHATEVER THE INPUT: true; the input reads as it did. -/
def wordOrderSpec : ChangeSpec := { name := "wordOrder", fn := fun _ => fun
  | [d1, d2] => { results := [.lit (.bool true)], args := [d1, d2] }
  | _ => none }
def wordOrderRow : OpenClaim := { program := "ytdpabdlbohdkjaadoor", sum := "004472affca24e21a80df3589a301ff1c87bf40c4c7a6545281446fd6ba4ac7d", func := "scoria/scorialaw04.WordOrder", spec := "wordOrder", unfollowed := true, recurses := true, named := ["scoria/word.operations"], apart := false, laid := [("scoria/word.operations", laid_scoria_word_operations)] }
def WordOrderSaid : Prop := wordOrderRow.holds Tryd.pinned (OpenSpec.ofChange wordOrderSpec)

/-- ITS FALSE NEIGHBOUR: 'it returns false'. Refute it at one input. -/
def wordOrderWrong : ChangeSpec := { name := "wordOrder", fn := fun _ => fun
  | [d1, d2] => { results := [.lit (.bool false)], args := [d1, d2] }
  | _ => none }
def WordOrderWrongFalsely : Prop := wordOrderRow.holds Tryd.pinned (OpenSpec.ofChange wordOrderWrong)

/-- 'scorialaw04.WordWraps': WHATEVER THE INPUT: true; the input reads as it did. -/
def wordWrapsSpec : ChangeSpec := { name := "wordWraps", fn := fun _ => fun
  | [d1, d2] => { results := [.lit (.bool true)], args := [d1, d2] }
  | _ => none }
def wordWrapsRow : OpenClaim := { program := "ytdpabdlbohdkjaadoor", sum := "004472affca24e21a80df3589a301ff1c87bf40c4c7a6545281446fd6ba4ac7d", func := "scoria/scorialaw04.WordWraps", spec := "wordWraps", unfollowed := true, recurses := true, named := ["scoria/word.operations"], apart := false, laid := [("scoria/word.operations", laid_scoria_word_operations)] }
def WordWrapsSaid : Prop := wordWrapsRow.holds Tryd.pinned (OpenSpec.ofChange wordWrapsSpec)

/-- ITS FALSE NEIGHBOUR: 'it returns false'. Refute it at one input. -/
def wordWrapsWrong : ChangeSpec := { name := "wordWraps", fn := fun _ => fun
  | [d1, d2] => { results := [.lit (.bool false)], args := [d1, d2] }
  | _ => none }
def WordWrapsWrongFalsely : Prop := wordWrapsRow.holds Tryd.pinned (OpenSpec.ofChange wordWrapsWrong)

/-- 'scorialaw04.WordOps': WHATEVER THE INPUT: true; the input reads as it did. -/
def wordOpsSpec : ChangeSpec := { name := "wordOps", fn := fun _ => fun
  | [d1, d2, d3] => { results := [.lit (.bool true)], args := [d1, d2, d3] }
  | _ => none }
def wordOpsRow : OpenClaim := { program := "ytdpabdlbohdkjaadoor", sum := "004472affca24e21a80df3589a301ff1c87bf40c4c7a6545281446fd6ba4ac7d", func := "scoria/scorialaw04.WordOps", spec := "wordOps", unfollowed := true, recurses := true, named := ["scoria/word.operations"], apart := false, laid := [("scoria/word.operations", laid_scoria_word_operations)] }
def WordOpsSaid : Prop := wordOpsRow.holds Tryd.pinned (OpenSpec.ofChange wordOpsSpec)

/-- ITS FALSE NEIGHBOUR: 'it returns false'. Refute it at one input. -/
def wordOpsWrong : ChangeSpec := { name := "wordOps", fn := fun _ => fun
  | [d1, d2, d3] => { results := [.lit (.bool false)], args := [d1, d2, d3] }
  | _ => none }
def WordOpsWrongFalsely : Prop := wordOpsRow.holds Tryd.pinned (OpenSpec.ofChange wordOpsWrong)

/- THE SECOND FORM. 'bulk': how many values and letters a reading holds, each counted each time it is reached (what is shared counts as often as it is met; a slice's spare places count too). A statement '..UptoSaid' is the law's where the arguments, and the package variables that the reading takes, are together of bulk at most 1048576: NARROWER than '..Said'. Prove '..Said' where nothing that the law and all that it calls make is longer than what came in: it says more and counts as full. Else prove '..UptoSaid'. A law counts once. -/
mutual
def uptoBulk {H : Type} : DataW H → Nat
  | .lit (.string bytes) => bytes.length + 1
  | .lit _ => 1
  | .nil => 1
  | .ptr d => uptoBulk d + 1
  | .slice elems spare => uptoBulkAll elems + uptoBulkAll spare + 1
  | .agg parts => uptoBulkAll parts + 1
  | .iface _ d => uptoBulk d + 1
  | .map entries => uptoBulkEntries entries + 1
  | .held _ => 1
def uptoBulkAll {H : Type} : List (DataW H) → Nat
  | [] => 0
  | d :: r => uptoBulk d + uptoBulkAll r
def uptoBulkEntries {H : Type} : List (Lit × DataW H) → Nat
  | [] => 0
  | x :: r => uptoBulkEntry x + uptoBulkEntries r
def uptoBulkEntry {H : Type} : Lit × DataW H → Nat
  | (.string bytes, d) => bytes.length + uptoBulk d + 1
  | (_, d) => uptoBulk d + 1
 end
def uptoSmall : (H : Type) → List (DataW H) → Bool := fun _ ds => decide (uptoBulkAll ds ≤ 1048576)
def OpenSpec.upto (s : _root_.Go.ChangeSpec) : _root_.Go.OpenSpec := { _root_.Go.OpenSpec.ofChange s with cond := some uptoSmall }

/-- 'scorialaw04.WordRing', WHERE WHAT IT READS IS OF BULK AT MOST 1048576: true; the input reads as it did. -/
def wordRingUptoRow : OpenClaim := { program := "ytdpabdlbohdkjaadoor", sum := "004472affca24e21a80df3589a301ff1c87bf40c4c7a6545281446fd6ba4ac7d", func := "scoria/scorialaw04.WordRing", spec := "wordRing", unfollowed := true, recurses := true, named := ["scoria/word.operations"], apart := false, laid := [("scoria/word.operations", laid_scoria_word_operations)], narrowed := true }
def WordRingUptoSaid : Prop := wordRingUptoRow.holds Tryd.pinned (OpenSpec.upto wordRingSpec)

/-- 'scorialaw04.WordDivides', WHERE WHAT IT READS IS OF BULK AT MOST 1048576: true; the input reads as it did. -/
def wordDividesUptoRow : OpenClaim := { program := "ytdpabdlbohdkjaadoor", sum := "004472affca24e21a80df3589a301ff1c87bf40c4c7a6545281446fd6ba4ac7d", func := "scoria/scorialaw04.WordDivides", spec := "wordDivides", unfollowed := true, recurses := true, named := ["scoria/word.operations"], apart := false, laid := [("scoria/word.operations", laid_scoria_word_operations)], narrowed := true }
def WordDividesUptoSaid : Prop := wordDividesUptoRow.holds Tryd.pinned (OpenSpec.upto wordDividesSpec)

/-- 'scorialaw04.WordBits', WHERE WHAT IT READS IS OF BULK AT MOST 1048576: true; the input reads as it did. -/
def wordBitsUptoRow : OpenClaim := { program := "ytdpabdlbohdkjaadoor", sum := "004472affca24e21a80df3589a301ff1c87bf40c4c7a6545281446fd6ba4ac7d", func := "scoria/scorialaw04.WordBits", spec := "wordBits", unfollowed := true, recurses := true, named := ["scoria/word.operations"], apart := false, laid := [("scoria/word.operations", laid_scoria_word_operations)], narrowed := true }
def WordBitsUptoSaid : Prop := wordBitsUptoRow.holds Tryd.pinned (OpenSpec.upto wordBitsSpec)

/-- 'scorialaw04.WordOrder', WHERE WHAT IT READS IS OF BULK AT MOST 1048576: true; the input reads as it did. -/
def wordOrderUptoRow : OpenClaim := { program := "ytdpabdlbohdkjaadoor", sum := "004472affca24e21a80df3589a301ff1c87bf40c4c7a6545281446fd6ba4ac7d", func := "scoria/scorialaw04.WordOrder", spec := "wordOrder", unfollowed := true, recurses := true, named := ["scoria/word.operations"], apart := false, laid := [("scoria/word.operations", laid_scoria_word_operations)], narrowed := true }
def WordOrderUptoSaid : Prop := wordOrderUptoRow.holds Tryd.pinned (OpenSpec.upto wordOrderSpec)

/-- 'scorialaw04.WordWraps', WHERE WHAT IT READS IS OF BULK AT MOST 1048576: true; the input reads as it did. -/
def wordWrapsUptoRow : OpenClaim := { program := "ytdpabdlbohdkjaadoor", sum := "004472affca24e21a80df3589a301ff1c87bf40c4c7a6545281446fd6ba4ac7d", func := "scoria/scorialaw04.WordWraps", spec := "wordWraps", unfollowed := true, recurses := true, named := ["scoria/word.operations"], apart := false, laid := [("scoria/word.operations", laid_scoria_word_operations)], narrowed := true }
def WordWrapsUptoSaid : Prop := wordWrapsUptoRow.holds Tryd.pinned (OpenSpec.upto wordWrapsSpec)

/-- 'scorialaw04.WordOps', WHERE WHAT IT READS IS OF BULK AT MOST 1048576: true; the input reads as it did. -/
def wordOpsUptoRow : OpenClaim := { program := "ytdpabdlbohdkjaadoor", sum := "004472affca24e21a80df3589a301ff1c87bf40c4c7a6545281446fd6ba4ac7d", func := "scoria/scorialaw04.WordOps", spec := "wordOps", unfollowed := true, recurses := true, named := ["scoria/word.operations"], apart := false, laid := [("scoria/word.operations", laid_scoria_word_operations)], narrowed := true }
def WordOpsUptoSaid : Prop := wordOpsUptoRow.holds Tryd.pinned (OpenSpec.upto wordOpsSpec)

end Rows
end Go.Proofs.YtdpabdlbohdkjaaDoor
