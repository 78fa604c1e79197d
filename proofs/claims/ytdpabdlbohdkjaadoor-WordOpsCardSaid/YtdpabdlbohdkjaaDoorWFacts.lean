/-
  The laws of the fourteen operations on words, by looking at all words: plain Lean, no program in sight.
-/
import Derived.Test.YtdpabdlbohdkjaaDoorWSpec
namespace Go.Proofs.YtdpabdlbohdkjaaDoor
open Go Go.RowKit

theorem ring_comm {k : Int} (hk : k = 0 ∨ k = 2) (a b : Int) : opR k a b = opR k b a := by
  have h0 := all2 (p := fun a b => opR 0 a b == opR 0 b a) (by decide +kernel) a b
  have h2 := all2 (p := fun a b => opR 2 a b == opR 2 b a) (by decide +kernel) a b
  simp only [beq_iff_eq, opR_wrap] at h0 h2
  rcases hk with rfl | rfl
  · exact h0
  · exact h2
theorem ring_assoc {k : Int} (hk : k = 0 ∨ k = 2) (a b c : Int) : opR k (opR k a b) c = opR k a (opR k b c) := by
  have h0 := all3 (p := fun a b c => opR 0 (opR 0 a b) c == opR 0 a (opR 0 b c)) (by decide +kernel) a b c
  have h2 := all3 (p := fun a b c => opR 2 (opR 2 a b) c == opR 2 a (opR 2 b c)) (by decide +kernel) a b c
  simp only [beq_iff_eq, opR_left, opR_right] at h0 h2
  rcases hk with rfl | rfl
  · exact h0
  · exact h2
theorem ring_distr (a b c : Int) : opR 2 a (opR 0 b c) = opR 0 (opR 2 a b) (opR 2 a c) := by
  have h := all3 (p := fun a b c => opR 2 a (opR 0 b c) == opR 0 (opR 2 a b) (opR 2 a c)) (by decide +kernel) a b c
  simpa only [beq_iff_eq, opR_wrap, opR_left, opR_right] using h
theorem ring_sub (a b : Int) : opR 1 (opR 0 a b) b = wWrap a := by
  have h := all2 (p := fun a b => opR 1 (opR 0 a b) b == a) (by decide +kernel) a b
  simpa only [beq_iff_eq, opR_wrap, opR_left, opR_right] using h
theorem ring_add (a b : Int) : opR 0 (opR 1 a b) b = wWrap a := by
  have h := all2 (p := fun a b => opR 0 (opR 1 a b) b == a) (by decide +kernel) a b
  simpa only [beq_iff_eq, opR_wrap, opR_left, opR_right] using h
theorem ring_self (a : Int) : opR 1 a a = 0 := by
  have h := all1 (p := fun a => opR 1 a a == 0) (by decide +kernel) a
  simpa only [beq_iff_eq, opR_wrap, opR_left, opR_right] using h

/-- Division: everything the law asks, for a divisor that is not 0. -/
theorem divides (a b : Int) (hb : ¬ wWrap b = 0) : opC 3 a b = 0 ∧ opC 4 a b = 0 ∧ opR 0 (opR 2 b (opR 3 a b)) (opR 4 a b) = wWrap a ∧
    (opR 4 a b = 0 ∨ (decide (opR 4 a b < 0) = decide (wWrap a < 0))) ∧ max (opR 4 a b) (-opR 4 a b) < max (wWrap b) (-wWrap b) := by
  refine ⟨by unfold opC; rw [if_neg (fun h => hb h.2)], by unfold opC; rw [if_neg (fun h => hb h.2)], ?_⟩
  have h := all2 (p := fun a b => b == 0 || (opR 0 (opR 2 b (opR 3 a b)) (opR 4 a b) == a && (opR 4 a b == 0 || decide (opR 4 a b < 0) == decide (a < 0)) && decide (max (opR 4 a b) (-opR 4 a b) < max b (-b)))) (by decide +kernel) a b
  have hb' : (wWrap b == 0) = false := by simpa using hb
  simp only [hb', Bool.false_or, Bool.and_eq_true, Bool.or_eq_true, beq_iff_eq, opR_left, opR_right, decide_eq_true_eq] at h
  exact ⟨h.1.1, h.1.2, h.2⟩
theorem divides_zero (a b : Int) (hb : wWrap b = 0) : opC 3 a b = 2 ∧ opC 4 a b = 2 ∧ opR 3 a b = 0 ∧ opR 4 a b = 0 := by
  refine ⟨by unfold opC; rw [if_pos ⟨by decide, hb⟩], by unfold opC; rw [if_pos ⟨by decide, hb⟩], ?_, ?_⟩
  · unfold opR; rw [if_neg (by decide), if_pos ⟨by decide, hb⟩]
  · unfold opR; rw [if_neg (by decide), if_pos ⟨by decide, hb⟩]

theorem bits_one (a b : Int) : opR 7 a b = opR 1 (opR 6 a b) (opR 5 a b) ∧ opR 0 (opR 7 a b) (opR 2 (opR 5 a b) 2) = opR 0 a b ∧ opR 1 (-1) a = opR 7 a (-1) := by
  have h := all2 (p := fun a b => opR 7 a b == opR 1 (opR 6 a b) (opR 5 a b) && opR 0 (opR 7 a b) (opR 2 (opR 5 a b) 2) == opR 0 a b && opR 1 (-1) a == opR 7 a (-1)) (by decide +kernel) a b
  simp only [Bool.and_eq_true, beq_iff_eq, opR_left, opR_right] at h
  exact ⟨h.1.1, h.1.2, h.2⟩
theorem bits_two (a b : Int) : opR 5 a a = wWrap a ∧ opR 6 a a = wWrap a ∧ opR 7 (opR 7 a b) b = wWrap a ∧ opR 7 (opR 5 a b) (-1) = opR 6 (opR 7 a (-1)) (opR 7 b (-1)) := by
  have h := all2 (p := fun a b => opR 5 a a == a && opR 6 a a == a && opR 7 (opR 7 a b) b == a && opR 7 (opR 5 a b) (-1) == opR 6 (opR 7 a (-1)) (opR 7 b (-1))) (by decide +kernel) a b
  simp only [Bool.and_eq_true, beq_iff_eq, opR_left, opR_right] at h
  exact ⟨h.1.1.1, h.1.1.2, h.1.2, h.2⟩

theorem order (a b : Int) : opR 10 a b + opR 10 b a + opR 11 a b = 1 ∧ ((opR 10 a b == 1) = decide (wWrap a < wWrap b)) ∧ ((opR 11 a b == 1) = (wWrap a == wWrap b)) := by
  have h := all2 (p := fun a b => opR 10 a b + opR 10 b a + opR 11 a b == 1 && (opR 10 a b == 1) == decide (a < b) && (opR 11 a b == 1) == (a == b)) (by decide +kernel) a b
  simp only [Bool.and_eq_true, beq_iff_eq, opR_wrap] at h
  exact ⟨h.1.1, h.1.2, h.2⟩
theorem emod_wWrap (b : Int) : wWrap b % 4 = b % 4 := by unfold wWrap; split <;> omega
theorem shl_shr (a b : Int) : opR 8 a b = wWrap (wWrap a * 2 ^ (b % 4).toNat) ∧ (wWrap a * 2 ^ (b % 4).toNat = opR 8 a b → opR 9 (opR 8 a b) b = wWrap a) := by
  have h := all2 (p := fun a b => opR 8 a b == wWrap (a * 2 ^ (b % 4).toNat) && (!(a * 2 ^ (b % 4).toNat == opR 8 a b) || opR 9 (opR 8 a b) b == a)) (by decide +kernel) a b
  simp only [Bool.and_eq_true, beq_iff_eq, opR_left, opR_right, emod_wWrap, Bool.or_eq_true, Bool.not_eq_true', beq_eq_false_iff_ne] at h
  exact ⟨h.1, fun e => h.2.resolve_left (fun hne => hne e)⟩
end Go.Proofs.YtdpabdlbohdkjaaDoor
