/-
  The walks of the laws WordRing, WordDivides, WordBits, WordOrder: each returns true. The condition: the table of operations stands in memory ('Tab').
-/
import Derived.Test.YtdpabdlbohdkjaaDoorWOps
import Derived.Test.YtdpabdlbohdkjaaDoorWFacts
import Derived.BigQuiet
namespace Go.Proofs.YtdpabdlbohdkjaaDoor
open Go Go.RowKit

theorem of_any {B : Nat} {w0 : World} (op a b : Int) (w : World) (hN : Nx B w0 w) :
    Calls Tryd.prog 9 #[.int .i64 op, .int .i64 a, .int .i64 b] w fun e w' => e = .returned (.int .i64 (opR op a b)) ∧ Nx B w0 w' := by
  go_enter Tryd.func9, Tryd.ntmps9
  go_wp2_with (go_at_call 12; refine (op_any _ _ _ _ (by assumption)).mono ?_; rintro e w' ⟨rfl, hN'⟩)
  go_ret
  exact ⟨rfl, hN'⟩
theorem is_true {B : Nat} {w0 : World} (op a b want : Int) (w : World) (hr : opR op a b = want) (hc : opC op a b = 0) (hN : Nx B w0 w) :
    Calls Tryd.prog 19 #[.int .i64 op, .int .i64 a, .int .i64 b, .int .i64 want] w fun e w' => e = .returned (.bool true) ∧ Nx B w0 w' := by
  subst hr
  go_enter Tryd.func19, Tryd.ntmps19
  go_wp2_with (go_at_call 12; refine (op_any _ _ _ _ (by assumption)).mono ?_; rintro e w' ⟨rfl, hN'⟩)
  go_ret
  exact ⟨rfl, hN'⟩
theorem lives_any {B : Nat} {w0 : World} (w : World) (hN : Nx B w0 w) :
    Calls Tryd.prog 11 #[] w fun e w' => e = .returned (.bool true) ∧ Nx B w0 w' := by
  have e1 : opR 3 3 0 = 0 := by decide +kernel
  have e2 : opC 3 3 0 = 2 := by decide +kernel
  have e3 : wWrap 8 = -8 := by decide +kernel
  go_enter Tryd.func11, Tryd.ntmps11
  go_wp2_with (first | (go_at_call 19; refine (is_true _ _ _ _ _ (by decide +kernel) (by decide +kernel) (by assumption)).mono ?_; rintro e w' ⟨rfl, hN'⟩) | (go_at_call 12; refine (op_any _ _ _ _ (by assumption)).mono ?_; rintro e w' ⟨rfl, hN'⟩) | (go_at_call 10; refine (wrap_any _ _).mono ?_; rintro e w' ⟨rfl, rfl⟩) | (go_at_call 13; refine (bits_any _ _).mono ?_; rintro e w' ⟨rfl, rfl⟩))
  go_ret
  exact ⟨rfl, by assumption⟩

theorem ring_law {B : Nat} {w0 : World} (a b c : Int) (w : World) (hN : Nx B w0 w) :
    Calls Tryd.prog 3 #[.int .i64 a, .int .i64 b, .int .i64 c] w fun e w' => e = .returned (.bool true) ∧ Nx B w0 w' := by
  have c0 : (opR 0 a b != opR 0 b a) = false := by rw [ring_comm (.inl rfl) a b]; simp
  have c2 : (opR 2 a b != opR 2 b a) = false := by rw [ring_comm (.inr rfl) a b]; simp
  have a0 : (opR 0 (opR 0 a b) c != opR 0 a (opR 0 b c)) = false := by rw [ring_assoc (.inl rfl)]; simp
  have a2 : (opR 2 (opR 2 a b) c != opR 2 a (opR 2 b c)) = false := by rw [ring_assoc (.inr rfl)]; simp
  have d : (opR 2 a (opR 0 b c) == opR 0 (opR 2 a b) (opR 2 a c)) = true := by rw [ring_distr]; simp
  have s1 : (opR 1 (opR 0 a b) b == wWrap a) = true := by rw [ring_sub]; simp
  have s2 : (opR 0 (opR 1 a b) b == wWrap a) = true := by rw [ring_add]; simp
  have s3 : (opR 1 a a == 0) = true := by rw [ring_self]; rfl
  go_enter Tryd.func3, Tryd.ntmps3
  go_wp2
  go_loopw [7] (fun o w' => (o = .int .i64 0 ∨ o = .int .i64 2 ∨ o = .int .i64 4) ∧ Nx B w0 w') (fun o _ => (4 - intOf o).toNat)
  case atStart => exact ⟨.inl rfl, hN⟩
  case round =>
    obtain ⟨ho, hNr⟩ := hrel
    clear hN
    rcases ho with rfl | rfl | rfl
    · go_wp2_with (go_at_call 9; refine (of_any _ _ _ _ (by assumption)).mono ?_; rintro e w' ⟨rfl, hN'⟩)
      go_roundw
      case rel => exact ⟨.inr (.inl rfl), by assumption⟩
      case measure => simp [intOf]
    · go_wp2_with (go_at_call 9; refine (of_any _ _ _ _ (by assumption)).mono ?_; rintro e w' ⟨rfl, hN'⟩)
      go_roundw
      case rel => exact ⟨.inr (.inr rfl), by assumption⟩
      case measure => simp [intOf]
    · go_wp2_with (first | (go_at_call 9; refine (of_any _ _ _ _ (by assumption)).mono ?_; rintro e w' ⟨rfl, hN'⟩) | (go_at_call 12; refine (op_any _ _ _ _ (by assumption)).mono ?_; rintro e w' ⟨rfl, hN'⟩) | (go_at_call 10; refine (wrap_any _ _).mono ?_; rintro e w' ⟨rfl, rfl⟩) | (go_at_call 13; refine (bits_any _ _).mono ?_; rintro e w' ⟨rfl, rfl⟩) | (go_at_call 11; refine (lives_any _ (by assumption)).mono ?_; rintro e w' ⟨rfl, hN'⟩))
      go_ret
      exact ⟨rfl, by assumption⟩

theorem divides_law {B : Nat} {w0 : World} (a b : Int) (w : World) (hN : Nx B w0 w) :
    Calls Tryd.prog 4 #[.int .i64 a, .int .i64 b] w fun e w' => e = .returned (.bool true) ∧ Nx B w0 w' := by
  by_cases hb : wWrap b = 0
  · obtain ⟨e1, e2, e3, e4⟩ := divides_zero a b hb
    go_enter Tryd.func4, Tryd.ntmps4
    go_wp2_with (first | (go_at_call 9; refine (of_any _ _ _ _ (by assumption)).mono ?_; rintro e w' ⟨rfl, hN'⟩) | (go_at_call 12; refine (op_any _ _ _ _ (by assumption)).mono ?_; rintro e w' ⟨rfl, hN'⟩) | (go_at_call 10; refine (wrap_any _ _).mono ?_; rintro e w' ⟨rfl, rfl⟩) | (go_at_call 13; refine (bits_any _ _).mono ?_; rintro e w' ⟨rfl, rfl⟩) | (go_at_call 11; refine (lives_any _ (by assumption)).mono ?_; rintro e w' ⟨rfl, hN'⟩))
    go_ret
    exact ⟨rfl, by assumption⟩
  · obtain ⟨e1, e2, e3, e4, e5⟩ := divides a b hb
    have g3 : (opR 0 (opR 2 b (opR 3 a b)) (opR 4 a b) == wWrap a) = true := by rw [e3]; simp
    have hbb : (wWrap b == 0) = false := by simpa using hb
    have k1 := opR_bd 4 a b
    have k2 := wWrap_bd b
    clear e3 hb
    by_cases hz : opR 4 a b = 0
    · have e4 := hz
      clear hz
      rw [e4] at g3
      go_enter Tryd.func4, Tryd.ntmps4
      go_wp2_with (first | (go_at_call 9; refine (of_any _ _ _ _ (by assumption)).mono ?_; rintro e w' ⟨rfl, hN'⟩) | (go_at_call 12; refine (op_any _ _ _ _ (by assumption)).mono ?_; rintro e w' ⟨rfl, hN'⟩) | (go_at_call 10; refine (wrap_any _ _).mono ?_; rintro e w' ⟨rfl, rfl⟩) | (go_at_call 13; refine (bits_any _ _).mono ?_; rintro e w' ⟨rfl, rfl⟩) | (go_at_call 11; refine (lives_any _ (by assumption)).mono ?_; rintro e w' ⟨rfl, hN'⟩))
      all_goals
        go_ret
        exact ⟨rfl, by assumption⟩
    · have e6 := e4.resolve_left hz
      have hzz : (opR 4 a b == 0) = false := by simpa using hz
      clear hz e4
      go_enter Tryd.func4, Tryd.ntmps4
      go_wp2_with (first | (go_at_call 9; refine (of_any _ _ _ _ (by assumption)).mono ?_; rintro e w' ⟨rfl, hN'⟩) | (go_at_call 12; refine (op_any _ _ _ _ (by assumption)).mono ?_; rintro e w' ⟨rfl, hN'⟩) | (go_at_call 10; refine (wrap_any _ _).mono ?_; rintro e w' ⟨rfl, rfl⟩) | (go_at_call 13; refine (bits_any _ _).mono ?_; rintro e w' ⟨rfl, rfl⟩) | (go_at_call 11; refine (lives_any _ (by assumption)).mono ?_; rintro e w' ⟨rfl, hN'⟩))
      all_goals
        go_ret
        exact ⟨rfl, by assumption⟩

theorem bits_law {B : Nat} {w0 : World} (a b : Int) (w : World) (hN : Nx B w0 w) :
    Calls Tryd.prog 5 #[.int .i64 a, .int .i64 b] w fun e w' => e = .returned (.bool true) ∧ Nx B w0 w' := by
  obtain ⟨h1, h2, h3⟩ := bits_one a b
  obtain ⟨h4, h5, h6, h7⟩ := bits_two a b
  have g1 : (opR 7 a b == opR 1 (opR 6 a b) (opR 5 a b)) = true := by rw [← h1]; simp
  have g2 : (opR 0 (opR 7 a b) (opR 2 (opR 5 a b) 2) == opR 0 a b) = true := by rw [h2]; simp
  have g3 : (opR 1 (-1) a == opR 7 a (-1)) = true := by rw [h3]; simp
  have g4 : (opR 5 a a == wWrap a) = true := by rw [h4]; simp
  have g5 : (opR 6 a a == wWrap a) = true := by rw [h5]; simp
  have g6 : (opR 7 (opR 7 a b) b == wWrap a) = true := by rw [h6]; simp
  have g7 : (opR 7 (opR 5 a b) (-1) == opR 6 (opR 7 a (-1)) (opR 7 b (-1))) = true := by rw [h7]; simp
  clear h1 h2 h3 h4 h5 h6 h7
  go_enter Tryd.func5, Tryd.ntmps5
  go_wp2_with (first | (go_at_call 9; refine (of_any _ _ _ _ (by assumption)).mono ?_; rintro e w' ⟨rfl, hN'⟩) | (go_at_call 12; refine (op_any _ _ _ _ (by assumption)).mono ?_; rintro e w' ⟨rfl, hN'⟩) | (go_at_call 10; refine (wrap_any _ _).mono ?_; rintro e w' ⟨rfl, rfl⟩) | (go_at_call 13; refine (bits_any _ _).mono ?_; rintro e w' ⟨rfl, rfl⟩) | (go_at_call 11; refine (lives_any _ (by assumption)).mono ?_; rintro e w' ⟨rfl, hN'⟩))
  go_ret
  exact ⟨rfl, by assumption⟩

theorem order_law {B : Nat} {w0 : World} (a b : Int) (w : World) (hN : Nx B w0 w) :
    Calls Tryd.prog 6 #[.int .i64 a, .int .i64 b] w fun e w' => e = .returned (.bool true) ∧ Nx B w0 w' := by
  obtain ⟨h1, h2, h3⟩ := order a b
  have b1 := opR_bd 10 a b
  have b2 := opR_bd 10 b a
  have b3 := opR_bd 11 a b
  have g1 : (opR 10 a b + opR 10 b a + opR 11 a b != 1) = false := by rw [h1]; rfl
  have g2 : ((opR 10 a b == 1) == decide (wWrap a < wWrap b)) = true := by rw [h2]; simp
  have g3 : ((opR 11 a b == 1) == (wWrap a == wWrap b)) = true := by rw [h3]; simp
  clear h1 h2 h3
  go_enter Tryd.func6, Tryd.ntmps6
  go_wp2_with (first | (go_at_call 9; refine (of_any _ _ _ _ (by assumption)).mono ?_; rintro e w' ⟨rfl, hN'⟩) | (go_at_call 12; refine (op_any _ _ _ _ (by assumption)).mono ?_; rintro e w' ⟨rfl, hN'⟩) | (go_at_call 10; refine (wrap_any _ _).mono ?_; rintro e w' ⟨rfl, rfl⟩) | (go_at_call 13; refine (bits_any _ _).mono ?_; rintro e w' ⟨rfl, rfl⟩) | (go_at_call 11; refine (lives_any _ (by assumption)).mono ?_; rintro e w' ⟨rfl, hN'⟩))
  clear g1 g2 g3 b1 b2 b3
  go_loop [7, 8] (fun p i => ∃ k : Nat, (k : Int) ≤ b % 4 ∧ i = .int .i64 k ∧ p = .int .i64 (2 ^ k)) (fun _ i => 4 - (intOf i).toNat)
  case atStart => exact ⟨0, by omega, rfl, rfl⟩
  case round =>
    obtain ⟨k, hk, rfl, rfl⟩ := hrel
    have hk4 : k ≤ 3 := by omega
    by_cases hlt : (k : Int) < b % 4
    · have hp : (2 : Int) ^ k ≤ 4 ∧ 1 ≤ (2 : Int) ^ k := by
        rcases (show k = 0 ∨ k = 1 ∨ k = 2 from by omega) with rfl | rfl | rfl <;> decide
      go_wp2_with (first | (go_at_call 9; refine (of_any _ _ _ _ (by assumption)).mono ?_; rintro e w' ⟨rfl, hN'⟩) | (go_at_call 12; refine (op_any _ _ _ _ (by assumption)).mono ?_; rintro e w' ⟨rfl, hN'⟩) | (go_at_call 10; refine (wrap_any _ _).mono ?_; rintro e w' ⟨rfl, rfl⟩) | (go_at_call 13; refine (bits_any _ _).mono ?_; rintro e w' ⟨rfl, rfl⟩) | (go_at_call 11; refine (lives_any _ (by assumption)).mono ?_; rintro e w' ⟨rfl, hN'⟩))
      go_round
      case rel => exact ⟨k + 1, by omega, by go_num, by rw [Int.pow_succ]⟩
      case measure => simp [intOf]; omega
    · obtain ⟨s1, s2⟩ := shl_shr a b
      have hkb : (b % 4).toNat = k := by omega
      rw [hkb] at s1 s2
      have hw := wWrap_bd a
      have hpp : (2 : Int) ^ k = 1 ∨ (2 : Int) ^ k = 2 ∨ (2 : Int) ^ k = 4 ∨ (2 : Int) ^ k = 8 := by
        rcases (show k = 0 ∨ k = 1 ∨ k = 2 ∨ k = 3 from by omega) with rfl | rfl | rfl | rfl <;> decide
      have hmul : wrap64 (wWrap a * 2 ^ k) = wWrap a * 2 ^ k := by
        refine IntWalk.wrap64_in _ ?_
        rcases hpp with h | h | h | h <;> rw [h] <;> omega
      have t1 : (opR 8 a b != wWrap (wWrap a * 2 ^ k)) = false := by rw [s1]; simp
      by_cases he : wWrap a * 2 ^ k = opR 8 a b
      · have t2 : (wWrap a * 2 ^ k != opR 8 a b) = false := by rw [he]; simp
        have t3 : (opR 9 (opR 8 a b) b == wWrap a) = true := by rw [s2 he]; simp
        clear hpp s1 s2 he hkb
        go_wp2_with (first | (go_at_call 9; refine (of_any _ _ _ _ (by assumption)).mono ?_; rintro e w' ⟨rfl, hN'⟩) | (go_at_call 12; refine (op_any _ _ _ _ (by assumption)).mono ?_; rintro e w' ⟨rfl, hN'⟩) | (go_at_call 10; refine (wrap_any _ _).mono ?_; rintro e w' ⟨rfl, rfl⟩) | (go_at_call 13; refine (bits_any _ _).mono ?_; rintro e w' ⟨rfl, rfl⟩) | (go_at_call 11; refine (lives_any _ (by assumption)).mono ?_; rintro e w' ⟨rfl, hN'⟩))
        go_ret
        exact ⟨rfl, by assumption⟩
      · have t2 : (wWrap a * 2 ^ k != opR 8 a b) = true := by simpa using he
        clear hpp s1 s2 he hkb
        go_wp2_with (first | (go_at_call 9; refine (of_any _ _ _ _ (by assumption)).mono ?_; rintro e w' ⟨rfl, hN'⟩) | (go_at_call 12; refine (op_any _ _ _ _ (by assumption)).mono ?_; rintro e w' ⟨rfl, hN'⟩) | (go_at_call 10; refine (wrap_any _ _).mono ?_; rintro e w' ⟨rfl, rfl⟩) | (go_at_call 13; refine (bits_any _ _).mono ?_; rintro e w' ⟨rfl, rfl⟩) | (go_at_call 11; refine (lives_any _ (by assumption)).mono ?_; rintro e w' ⟨rfl, hN'⟩))
        go_ret
        exact ⟨rfl, by assumption⟩
end Go.Proofs.YtdpabdlbohdkjaaDoor
