/-
  What the functions of package word compute, in plain Lean: the word of a number, the bits of a word, and the results of the fourteen operations. No program in sight.
-/
import Derived.WalkKit
namespace Go.Proofs.YtdpabdlbohdkjaaDoor
open Go Go.RowKit

theorem and15 (n : Int) : bits .and .i64 n 15 = n % 16 := by
  simp only [bits, IntKind.bits]
  rw [show (BitVec.ofInt 64 15) = 15#64 from by decide]
  have h : (BitVec.ofInt 64 n &&& 15#64).toNat = ((n % 16).toNat) := by
    rw [BitVec.toNat_and]
    have : (15#64).toNat = 2^4 - 1 := by decide
    rw [this, Nat.and_two_pow_sub_one_eq_mod]
    simp [BitVec.toNat_ofInt]
    omega
  exact (congrArg (fun x : Nat => IntKind.i64.wrap (x : Int)) h).trans (by rw [IntKind.wrap_i64]; omega)

/-- The word that a number is modulo 16. -/
def wWrap (n : Int) : Int := if 7 < n % 16 then n % 16 - 16 else n % 16

theorem wWrap_bd (n : Int) : -8 ≤ wWrap n ∧ wWrap n ≤ 7 := by unfold wWrap; split <;> omega
theorem wWrap_idem (n : Int) : wWrap (wWrap n) = wWrap n := by unfold wWrap; split <;> split <;> omega
theorem wWrap_word {n : Int} (h : -8 ≤ n ∧ n ≤ 7) : wWrap n = n := by unfold wWrap; split <;> omega
theorem wWrap_of_emod {m n : Int} (h : m % 16 = n % 16) : wWrap m = wWrap n := by unfold wWrap; rw [h]

/-- The operations on words, as the program's function table has them. -/
def doop : Nat → Int → Int → Int
  | 0, a, b => a + b
  | 1, a, b => a - b
  | 2, a, b => wrap64 (a * b)
  | 3, a, b => wrap64 (a.tdiv b)
  | 4, a, b => a.tmod b
  | 5, a, b => bits .and .i64 a b
  | 6, a, b => bits .or .i64 a b
  | 7, a, b => bits .xor .i64 a b
  | 8, a, b => wrap64 (a * 2 ^ (b % 4).toNat)
  | 9, a, b => a / 2 ^ (b % 4).toNat
  | 10, a, b => if a < b then 1 else 0
  | 11, a, b => if a = b then 1 else 0
  | 12, a, b => if a = 0 ∨ b = 0 then 0 else 1
  | _, a, b => if a = 0 ∧ b = 0 then 0 else 1

/-- The result of an operation on words: Go's 'Op', its first result. -/
def opR (op a b : Int) : Int :=
  if op < 0 ∨ 14 ≤ op then 0 else
  if (op = 3 ∨ op = 4) ∧ wWrap b = 0 then 0 else wWrap (doop op.toNat (wWrap a) (wWrap b))
/-- The code of the exception: Go's 'Op', its second result. -/
def opC (op _a b : Int) : Int := if (op = 3 ∨ op = 4) ∧ wWrap b = 0 then 2 else 0

def truth (op : Int) : Bool := decide (10 ≤ op ∧ op < 14)

theorem opR_out {op : Int} (h : op < 0 ∨ 14 ≤ op) (a b : Int) : opR op a b = 0 := by unfold opR; rw [if_pos h]
theorem opC_out {op : Int} (h : op < 0 ∨ 14 ≤ op) (a b : Int) : opC op a b = 0 := by unfold opC; rw [if_neg (by omega)]
theorem opR_wrap (op a b : Int) : opR op (wWrap a) (wWrap b) = opR op a b := by unfold opR; rw [wWrap_idem, wWrap_idem]
theorem opC_wrap (op a b : Int) : opC op (wWrap a) (wWrap b) = opC op a b := by unfold opC; rw [wWrap_idem]

/-- The sixteen words. -/
def words : List Int := [-8, -7, -6, -5, -4, -3, -2, -1, 0, 1, 2, 3, 4, 5, 6, 7]
theorem mem_words {n : Int} (h : -8 ≤ n ∧ n ≤ 7) : n ∈ words := by
  have : n = -8 ∨ n = -7 ∨ n = -6 ∨ n = -5 ∨ n = -4 ∨ n = -3 ∨ n = -2 ∨ n = -1 ∨ n = 0 ∨ n = 1 ∨ n = 2 ∨ n = 3 ∨ n = 4 ∨ n = 5 ∨ n = 6 ∨ n = 7 := by omega
  simp only [words, List.mem_cons, List.not_mem_nil, or_false]; exact this
theorem wWrap_mem (n : Int) : wWrap n ∈ words := mem_words (wWrap_bd n)
/-- What holds of all words holds of all numbers, through their words. -/
theorem all1 {p : Int → Bool} (h : words.all p = true) (a : Int) : p (wWrap a) = true := List.all_eq_true.1 h _ (wWrap_mem a)
theorem all2 {p : Int → Int → Bool} (h : (words.all fun a => words.all fun b => p a b) = true) (a b : Int) : p (wWrap a) (wWrap b) = true :=
  List.all_eq_true.1 (List.all_eq_true.1 h _ (wWrap_mem a)) _ (wWrap_mem b)
theorem all3 {p : Int → Int → Int → Bool} (h : (words.all fun a => words.all fun b => words.all fun c => p a b c) = true) (a b c : Int) : p (wWrap a) (wWrap b) (wWrap c) = true :=
  List.all_eq_true.1 (List.all_eq_true.1 (List.all_eq_true.1 h _ (wWrap_mem a)) _ (wWrap_mem b)) _ (wWrap_mem c)

theorem opR_left (op a b : Int) : opR op (wWrap a) b = opR op a b := by unfold opR; rw [wWrap_idem]
theorem opR_right (op a b : Int) : opR op a (wWrap b) = opR op a b := by unfold opR; rw [wWrap_idem]
theorem opR_bd (op a b : Int) : -8 ≤ opR op a b ∧ opR op a b ≤ 7 := by
  unfold opR; split
  · omega
  · split
    · omega
    · exact wWrap_bd _
end Go.Proofs.YtdpabdlbohdkjaaDoor
