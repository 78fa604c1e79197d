/-
  Unit propagation in plain Lean: truth values of literals, one look at a clause, a pass over all clauses, propagation up to a conflict; proofs, cores and trimmed proofs. No program in sight.
-/
import Derived.WalkKit
namespace Go.Proofs.Ythagkljenbhbdaa
open Go Go.RowKit

/-- Truth values: 1 true, -1 false, 0 not known; by variable. -/
def vof (l : List Int) (n : Int) : Int := if n < 0 then -(l.getD (-n).toNat 0) else l.getD n.toNat 0
def vset (l : List Int) (n : Int) : List Int := if n < 0 then l.set (-n).toNat (-1) else l.set n.toNat 1
def TV (l : List Int) : Prop := ∀ x ∈ l, -1 ≤ x ∧ x ≤ 1
/-- A literal of some variables. -/
def Lit1 (N : Nat) (n : Int) : Prop := -(N : Int) < n ∧ n < N
theorem vset_len (l : List Int) (n : Int) : (vset l n).length = l.length := by unfold vset; split <;> simp
theorem TV.set {l : List Int} (h : TV l) (n : Int) : TV (vset l n) := by
  intro x hx
  unfold vset at hx
  split at hx <;> rcases List.mem_or_eq_of_mem_set hx with hx | rfl
  · exact h x hx
  · omega
  · exact h x hx
  · omega
theorem TV.get {l : List Int} (h : TV l) (j : Nat) (hj : j < l.length) : -1 ≤ l[j] ∧ l[j] ≤ 1 := h _ (List.getElem_mem hj)
theorem TV.zeros (n : Nat) : TV (List.replicate n 0) := by
  intro x hx
  have := List.eq_of_mem_replicate hx
  omega

/-- One look at a clause: none: a literal is true, or two that are not known differ; else the one that is not known, or 0. -/
def scan (v : List Int) : List Int → Int → Option Int
  | [], u => some u
  | n :: c, u => if 0 < vof v n ∨ (vof v n = 0 ∧ u ≠ 0 ∧ u ≠ n) then none else scan v c (if vof v n = 0 then n else u)
/-- A pass over all clauses: none: a conflict. -/
def pass : List (List Int) → List Int → Bool → Option (List Int × Bool)
  | [], v, ch => some (v, ch)
  | c :: cs, v, ch =>
    match scan v c 0 with
    | none => pass cs v ch
    | some u => if u = 0 then none else pass cs (vset v u) true
/-- Again and again, as long as something changes. -/
def prop : Nat → List (List Int) → List Int → Bool
  | 0, _, _ => false
  | k + 1, cs, v =>
    match pass cs v false with
    | none => true
    | some (v', ch) => if ch then prop k cs v' else false
/-- The literals one begins with: none: a conflict among them. -/
def assume : List Int → List Int → Option (List Int)
  | [], v => some v
  | n :: l, v => if vof v n < 0 then none else assume l (vset v n)
def conflict (vars : Nat) (cs : List (List Int)) (l : List Int) : Bool :=
  match assume l (List.replicate (vars + 1) 0) with
  | none => true
  | some v => prop (vars + 2) cs v
/-- The opposites of a clause's literals. -/
def neg (c : List Int) : List Int := c.map fun n => -n
def provesLoop (N : Nat) : List (List Int) → List (List Int) → Bool
  | _, [] => true
  | all, c :: pr => if conflict N all (neg c) then provesLoop N (all ++ [c]) pr else false
/-- Is the list a proof? -/
def provesS (N : Nat) (cs pr : List (List Int)) : Bool :=
  match pr.getLast? with
  | none => false
  | some c => if 0 < c.length then false else provesLoop N cs pr
/-- A number that is no literal of N variables; a clause that is not right. -/
def badLit (N n : Int) : Bool := n == 0 || decide (N < n) || decide (n < -N)
def badClause (N : Int) (c : List Int) : Bool := decide (4096 < c.length) || c.any (badLit N)
def rightS (N : Int) (cs : List (List Int)) : Bool := !cs.any (badClause N)
/-- Are clauses and proof right? -/
def validS (N : Int) (cs pr : List (List Int)) : Bool := decide (0 ≤ N) && decide (N ≤ 4096) && decide (cs.length + pr.length ≤ 16384) && rightS N cs && rightS N pr
def checkS (N : Int) (cs pr : List (List Int)) : Int := if validS N cs pr then (if provesS N.toNat cs pr then 0 else 22) else 1
end Go.Proofs.Ythagkljenbhbdaa
