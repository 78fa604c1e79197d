/-
  No cell of these rows narrows 'for every input' (looked for: loops, veiled, ifaces, maps, wideKeys, modest, calm, conditions, laid).
  DERIVED. THE GIVEN ROWS OF THIS SEAT. 7 by the template 'for every input the law returns true; each argument reads behind the call as it read before'; 0 by the template 'total and deterministic' (their statements: YthagkljenbhbdaaTotals.lean).
  GIVEN WITH THE SEED: the statements are not yours to turn. If you find one false, say at which input.
  Laid BY PROGRAM, IN A SANDBOX (cutbox-rows.mjs): the forced cells as the released guide's own fill.sh prints them over the translation 21f27d29fde72185… (all of the seat's roots in one cut). By AI agents, Wed Nov 11 2026. No macro, syntax, notation, axiom, sorry.
-/
import Derived.Test.YthagkljenbhbdaaChecked
import GoSem.Claim
import GoSem.ClaimJoined
import GoSem.ClaimMapViews
import Derived.JoinedTies
import Derived.KernelRfl
namespace Go.Proofs.Ythagkljenbhbdaa
/- THE CELL 'sum', in the pinned program and in every row, IS THE sha256 OF THE DUMP (.gsa) THAT YthagkljenbhbdaaProg.lean LOADS. Nothing in Lean hashes anything: it is a label: what it is worth is what the hold of that sum in a sandbox is worth. -/
noncomputable def Try.pinned : Pinned := { name := "ythagkljenbhbdaa", sum := "21f27d29fde72185de34b3ed6987ccade4b82a2116aeced3455fe7843c528ebd", checked := Try.checked }
namespace Rows
def none {H : Type} : Left H := { results := [], args := [] }

/-- 'scorialaw23.RupChecks': WHATEVER THE INPUT: true; the input reads as it did. -/
def rupChecksSpec : ChangeSpec := { name := "rupChecks", fn := fun _ => fun
  | [d1, d2, d3, d4, d5, d6, d7, d8] => { results := [.lit (.bool true)], args := [d1, d2, d3, d4, d5, d6, d7, d8] }
  | _ => none }
def rupChecksRow : OpenClaim := { program := "ythagkljenbhbdaa", sum := "21f27d29fde72185de34b3ed6987ccade4b82a2116aeced3455fe7843c528ebd", func := "scoria/scorialaw23.RupChecks", spec := "rupChecks", unfollowed := true, recurses := true, apart := false }
def RupChecksSaid : Prop := rupChecksRow.holds Try.pinned (OpenSpec.ofChange rupChecksSpec)

/-- ITS FALSE NEIGHBOUR: 'it returns false'. Refute it at one input. -/
def rupChecksWrong : ChangeSpec := { name := "rupChecks", fn := fun _ => fun
  | [d1, d2, d3, d4, d5, d6, d7, d8] => { results := [.lit (.bool false)], args := [d1, d2, d3, d4, d5, d6, d7, d8] }
  | _ => none }
def RupChecksWrongFalsely : Prop := rupChecksRow.holds Try.pinned (OpenSpec.ofChange rupChecksWrong)

/-- 'scorialaw23.RupCores': WHATEVER THE INPUT: true; the input reads as it did. -/
def rupCoresSpec : ChangeSpec := { name := "rupCores", fn := fun _ => fun
  | [d1, d2, d3, d4, d5, d6] => { results := [.lit (.bool true)], args := [d1, d2, d3, d4, d5, d6] }
  | _ => none }
def rupCoresRow : OpenClaim := { program := "ythagkljenbhbdaa", sum := "21f27d29fde72185de34b3ed6987ccade4b82a2116aeced3455fe7843c528ebd", func := "scoria/scorialaw23.RupCores", spec := "rupCores", unfollowed := true, recurses := true, apart := false }
def RupCoresSaid : Prop := rupCoresRow.holds Try.pinned (OpenSpec.ofChange rupCoresSpec)

/-- ITS FALSE NEIGHBOUR: 'it returns false'. Refute it at one input. -/
def rupCoresWrong : ChangeSpec := { name := "rupCores", fn := fun _ => fun
  | [d1, d2, d3, d4, d5, d6] => { results := [.lit (.bool false)], args := [d1, d2, d3, d4, d5, d6] }
  | _ => none }
def RupCoresWrongFalsely : Prop := rupCoresRow.holds Try.pinned (OpenSpec.ofChange rupCoresWrong)

/-- 'scorialaw23.RupMore': WHATEVER THE INPUT: true; the input reads as it did. -/
def rupMoreSpec : ChangeSpec := { name := "rupMore", fn := fun _ => fun
  | [d1, d2, d3, d4, d5] => { results := [.lit (.bool true)], args := [d1, d2, d3, d4, d5] }
  | _ => none }
def rupMoreRow : OpenClaim := { program := "ythagkljenbhbdaa", sum := "21f27d29fde72185de34b3ed6987ccade4b82a2116aeced3455fe7843c528ebd", func := "scoria/scorialaw23.RupMore", spec := "rupMore", unfollowed := true, recurses := true, apart := false }
def RupMoreSaid : Prop := rupMoreRow.holds Try.pinned (OpenSpec.ofChange rupMoreSpec)

/-- ITS FALSE NEIGHBOUR: 'it returns false'. Refute it at one input. -/
def rupMoreWrong : ChangeSpec := { name := "rupMore", fn := fun _ => fun
  | [d1, d2, d3, d4, d5] => { results := [.lit (.bool false)], args := [d1, d2, d3, d4, d5] }
  | _ => none }
def RupMoreWrongFalsely : Prop := rupMoreRow.holds Try.pinned (OpenSpec.ofChange rupMoreWrong)

/-- 'scorialaw23.RupLeast': WHATEVER THE INPUT: true; the input reads as it did. -/
def rupLeastSpec : ChangeSpec := { name := "rupLeast", fn := fun _ => fun
  | [d1, d2, d3] => { results := [.lit (.bool true)], args := [d1, d2, d3] }
  | _ => none }
def rupLeastRow : OpenClaim := { program := "ythagkljenbhbdaa", sum := "21f27d29fde72185de34b3ed6987ccade4b82a2116aeced3455fe7843c528ebd", func := "scoria/scorialaw23.RupLeast", spec := "rupLeast", unfollowed := true, recurses := true, apart := false }
def RupLeastSaid : Prop := rupLeastRow.holds Try.pinned (OpenSpec.ofChange rupLeastSpec)

/-- ITS FALSE NEIGHBOUR: 'it returns false'. Refute it at one input. -/
def rupLeastWrong : ChangeSpec := { name := "rupLeast", fn := fun _ => fun
  | [d1, d2, d3] => { results := [.lit (.bool false)], args := [d1, d2, d3] }
  | _ => none }
def RupLeastWrongFalsely : Prop := rupLeastRow.holds Try.pinned (OpenSpec.ofChange rupLeastWrong)

/-- 'scorialaw23.RupNames': WHATEVER THE INPUT: true; the input reads as it did. -/
def rupNamesSpec : ChangeSpec := { name := "rupNames", fn := fun _ => fun
  | [d1, d2, d3, d4] => { results := [.lit (.bool true)], args := [d1, d2, d3, d4] }
  | _ => none }
def rupNamesRow : OpenClaim := { program := "ythagkljenbhbdaa", sum := "21f27d29fde72185de34b3ed6987ccade4b82a2116aeced3455fe7843c528ebd", func := "scoria/scorialaw23.RupNames", spec := "rupNames", unfollowed := true, recurses := true, apart := false }
def RupNamesSaid : Prop := rupNamesRow.holds Try.pinned (OpenSpec.ofChange rupNamesSpec)

/-- ITS FALSE NEIGHBOUR: 'it returns false'. Refute it at one input. -/
def rupNamesWrong : ChangeSpec := { name := "rupNames", fn := fun _ => fun
  | [d1, d2, d3, d4] => { results := [.lit (.bool false)], args := [d1, d2, d3, d4] }
  | _ => none }
def RupNamesWrongFalsely : Prop := rupNamesRow.holds Try.pinned (OpenSpec.ofChange rupNamesWrong)

/-- 'scorialaw23.RupSound': WHATEVER THE INPUT: true; the input reads as it did. -/
def rupSoundSpec : ChangeSpec := { name := "rupSound", fn := fun _ => fun
  | [d1, d2, d3, d4, d5, d6] => { results := [.lit (.bool true)], args := [d1, d2, d3, d4, d5, d6] }
  | _ => none }
def rupSoundRow : OpenClaim := { program := "ythagkljenbhbdaa", sum := "21f27d29fde72185de34b3ed6987ccade4b82a2116aeced3455fe7843c528ebd", func := "scoria/scorialaw23.RupSound", spec := "rupSound", unfollowed := true, recurses := true, apart := false }
def RupSoundSaid : Prop := rupSoundRow.holds Try.pinned (OpenSpec.ofChange rupSoundSpec)

/-- ITS FALSE NEIGHBOUR: 'it returns false'. Refute it at one input. -/
def rupSoundWrong : ChangeSpec := { name := "rupSound", fn := fun _ => fun
  | [d1, d2, d3, d4, d5, d6] => { results := [.lit (.bool false)], args := [d1, d2, d3, d4, d5, d6] }
  | _ => none }
def RupSoundWrongFalsely : Prop := rupSoundRow.holds Try.pinned (OpenSpec.ofChange rupSoundWrong)

/-- 'scorialaw23.RupComplete': WHATEVER THE INPUT: true; the input reads as it did. -/
def rupCompleteSpec : ChangeSpec := { name := "rupComplete", fn := fun _ => fun
  | [d1, d2, d3] => { results := [.lit (.bool true)], args := [d1, d2, d3] }
  | _ => none }
def rupCompleteRow : OpenClaim := { program := "ythagkljenbhbdaa", sum := "21f27d29fde72185de34b3ed6987ccade4b82a2116aeced3455fe7843c528ebd", func := "scoria/scorialaw23.RupComplete", spec := "rupComplete", unfollowed := true, recurses := true, apart := false }
def RupCompleteSaid : Prop := rupCompleteRow.holds Try.pinned (OpenSpec.ofChange rupCompleteSpec)

/-- ITS FALSE NEIGHBOUR: 'it returns false'. Refute it at one input. -/
def rupCompleteWrong : ChangeSpec := { name := "rupComplete", fn := fun _ => fun
  | [d1, d2, d3] => { results := [.lit (.bool false)], args := [d1, d2, d3] }
  | _ => none }
def RupCompleteWrongFalsely : Prop := rupCompleteRow.holds Try.pinned (OpenSpec.ofChange rupCompleteWrong)

/- THE SECOND FORM. 'bulk': how many values and letters a reading holds, each counted each time it is reached (what is shared counts as often as it is met; a slice's spare places count too). A statement '..UptoSaid' is the law's where the arguments, and the package variables that the reading takes, are together of bulk at most 1048576: NARROWER than '..Said'. Prove '..Said' where nothing that the law and all that it calls make is longer than what came in: it says more and counts as full. Else prove '..UptoSaid'. A law counts once. -/
mutual
def uptoBulk {H : Type} : DataW H → Nat
  | .lit (.string bytes) => bytes.length + 1
  | .lit _ => 1
  | .nil => 1
  | .ptr d => uptoBulk d + 1
  | .slice elems spare => uptoBulkAll elems + uptoBulkAll spare + 1
  | .agg parts => uptoBulkAll parts + 1
  | .iface _ d => uptoBulk d + 1
  | .map entries => uptoBulkEntries entries + 1
  | .held _ => 1
def uptoBulkAll {H : Type} : List (DataW H) → Nat
  | [] => 0
  | d :: r => uptoBulk d + uptoBulkAll r
def uptoBulkEntries {H : Type} : List (Lit × DataW H) → Nat
  | [] => 0
  | x :: r => uptoBulkEntry x + uptoBulkEntries r
def uptoBulkEntry {H : Type} : Lit × DataW H → Nat
  | (.string bytes, d) => bytes.length + uptoBulk d + 1
  | (_, d) => uptoBulk d + 1
 end
def uptoSmall : (H : Type) → List (DataW H) → Bool := fun _ ds => decide (uptoBulkAll ds ≤ 1048576)
def OpenSpec.upto (s : _root_.Go.ChangeSpec) : _root_.Go.OpenSpec := { _root_.Go.OpenSpec.ofChange s with cond := some uptoSmall }

/-- 'scorialaw23.RupChecks', WHERE WHAT IT READS IS OF BULK AT MOST 1048576: true; the input reads as it did. -/
def rupChecksUptoRow : OpenClaim := { program := "ythagkljenbhbdaa", sum := "21f27d29fde72185de34b3ed6987ccade4b82a2116aeced3455fe7843c528ebd", func := "scoria/scorialaw23.RupChecks", spec := "rupChecks", unfollowed := true, recurses := true, apart := false, narrowed := true }
def RupChecksUptoSaid : Prop := rupChecksUptoRow.holds Try.pinned (OpenSpec.upto rupChecksSpec)

/-- 'scorialaw23.RupCores', WHERE WHAT IT READS IS OF BULK AT MOST 1048576: true; the input reads as it did. -/
def rupCoresUptoRow : OpenClaim := { program := "ythagkljenbhbdaa", sum := "21f27d29fde72185de34b3ed6987ccade4b82a2116aeced3455fe7843c528ebd", func := "scoria/scorialaw23.RupCores", spec := "rupCores", unfollowed := true, recurses := true, apart := false, narrowed := true }
def RupCoresUptoSaid : Prop := rupCoresUptoRow.holds Try.pinned (OpenSpec.upto rupCoresSpec)

/-- 'scorialaw23.RupMore', WHERE WHAT IT READS IS OF BULK AT MOST 1048576: true; the input reads as it did. -/
def rupMoreUptoRow : OpenClaim := { program := "ythagkljenbhbdaa", sum := "21f27d29fde72185de34b3ed6987ccade4b82a2116aeced3455fe7843c528ebd", func := "scoria/scorialaw23.RupMore", spec := "rupMore", unfollowed := true, recurses := true, apart := false, narrowed := true }
def RupMoreUptoSaid : Prop := rupMoreUptoRow.holds Try.pinned (OpenSpec.upto rupMoreSpec)

/-- 'scorialaw23.RupLeast', WHERE WHAT IT READS IS OF BULK AT MOST 1048576: true; the input reads as it did. -/
def rupLeastUptoRow : OpenClaim := { program := "ythagkljenbhbdaa", sum := "21f27d29fde72185de34b3ed6987ccade4b82a2116aeced3455fe7843c528ebd", func := "scoria/scorialaw23.RupLeast", spec := "rupLeast", unfollowed := true, recurses := true, apart := false, narrowed := true }
def RupLeastUptoSaid : Prop := rupLeastUptoRow.holds Try.pinned (OpenSpec.upto rupLeastSpec)

/-- 'scorialaw23.RupNames', WHERE WHAT IT READS IS OF BULK AT MOST 1048576: true; the input reads as it did. -/
def rupNamesUptoRow : OpenClaim := { program := "ythagkljenbhbdaa", sum := "21f27d29fde72185de34b3ed6987ccade4b82a2116aeced3455fe7843c528ebd", func := "scoria/scorialaw23.RupNames", spec := "rupNames", unfollowed := true, recurses := true, apart := false, narrowed := true }
def RupNamesUptoSaid : Prop := rupNamesUptoRow.holds Try.pinned (OpenSpec.upto rupNamesSpec)

/-- 'scorialaw23.RupSound', WHERE WHAT IT READS IS OF BULK AT MOST 1048576: true; the input reads as it did. -/
def rupSoundUptoRow : OpenClaim := { program := "ythagkljenbhbdaa", sum := "21f27d29fde72185de34b3ed6987ccade4b82a2116aeced3455fe7843c528ebd", func := "scoria/scorialaw23.RupSound", spec := "rupSound", unfollowed := true, recurses := true, apart := false, narrowed := true }
def RupSoundUptoSaid : Prop := rupSoundUptoRow.holds Try.pinned (OpenSpec.upto rupSoundSpec)

/-- 'scorialaw23.RupComplete', WHERE WHAT IT READS IS OF BULK AT MOST 1048576: true; the input reads as it did. -/
def rupCompleteUptoRow : OpenClaim := { program := "ythagkljenbhbdaa", sum := "21f27d29fde72185de34b3ed6987ccade4b82a2116aeced3455fe7843c528ebd", func := "scoria/scorialaw23.RupComplete", spec := "rupComplete", unfollowed := true, recurses := true, apart := false, narrowed := true }
def RupCompleteUptoSaid : Prop := rupCompleteUptoRow.holds Try.pinned (OpenSpec.upto rupCompleteSpec)

end Rows
end Go.Proofs.Ythagkljenbhbdaa
