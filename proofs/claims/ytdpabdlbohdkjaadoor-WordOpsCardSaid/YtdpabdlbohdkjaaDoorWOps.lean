/-
  The walks of package word: each function returns what the plain Lean functions of WSpec say; nothing that was in memory is changed. 'Nx': the table of operations lies in memory as start-up left it, and below a bound nothing has changed.
-/
import Derived.Test.YtdpabdlbohdkjaaDoorProg
import Derived.WalkKit
import Derived.WalkSpells
import Derived.WalkLawsBesides
import Derived.Laws.EntriesVeiled
import Derived.Test.YtdpabdlbohdkjaaDoorWSpec
namespace Go.Proofs.YtdpabdlbohdkjaaDoor
open Go Go.RowKit

theorem wrap_any (n : Int) (w : World) :
    Calls Tryd.prog 10 #[.int .i64 n] w fun e w' => e = .returned (.int .i64 (wWrap n)) ∧ w = w' := by
  have h15 := and15 n
  go_enter Tryd.func10, Tryd.ntmps10
  by_cases h : 7 < n % 16
  · go_wp2
    go_ret
    exact ⟨by simp only [wWrap]; rw [if_pos (by omega)]; rfl, rfl⟩
  · go_wp2
    go_ret
    exact ⟨by simp only [wWrap]; rw [if_neg (by omega)]; rfl, rfl⟩
theorem bits_any (n : Int) (w : World) :
    Calls Tryd.prog 13 #[.int .i64 n] w fun e w' => e = .returned (.int .i64 (n % 16)) ∧ w = w' := by
  have h15 := and15 n
  go_enter Tryd.func13, Tryd.ntmps13
  go_wp2
  go_ret
  exact ⟨rfl, rfl⟩
theorem shift_any (b : Int) (w : World) :
    Calls Tryd.prog 50 #[.int .i64 b] w fun e w' => e = .returned (.int .u64 (b % 4)) ∧ w = w' := by
  go_enter Tryd.func50, Tryd.ntmps50
  go_wp2_with (go_at_call 13; refine (bits_any _ _).mono ?_; rintro e w' ⟨rfl, rfl⟩)
  go_ret
  exact ⟨rfl, rfl⟩

/-- What is carried from call to call: below B nothing has changed since w0, and the table of operations stands in memory. -/
def tabCell (i : Nat) : Value :=
  if i % 3 = 0 then .func (.func ([41, 42, 43, 44, 45, 46, 47, 48, 49, 51, 52, 54, 55, 56].getD (i / 3) 0)) #[] #[]
  else if i % 3 = 1 then .bool (i / 3 == 3 || i / 3 == 4) else .bool (10 ≤ i / 3)
structure Tab (w : World) : Prop where
  size : 0 < w.heap.size
  cell : ∀ i, i < 42 → w.cell? ⟨0, i, none⟩ = some (tabCell i)
structure Nx (B : Nat) (w0 w : World) : Prop where
  below : Below B w0 w
  le : B ≤ w.heap.size
  tab : Tab w
theorem Tab.below {w w' : World} (h : Tab w) (hb : Below w.heap.size w w') : Tab w' :=
  ⟨Nat.lt_of_lt_of_le h.size hb.size, fun i hi => (hb.cell (p := ⟨0, i, none⟩) h.size).trans (h.cell i hi)⟩
theorem Nx.next {B : Nat} {w0 w w' : World} (h : Nx B w0 w) (hb : Below w.heap.size w w') : Nx B w0 w' :=
  ⟨h.below.trans (hb.mono h.le), Nat.le_trans h.le hb.size, h.tab.below hb⟩
theorem Nx.start {w : World} (h : Tab w) : Nx w.heap.size w w := ⟨Below.refl _ _, Nat.le_refl _, h⟩

theorem number_any (b : Bool) (w : World) :
    Calls Tryd.prog 53 #[.bool b] w fun e w' => e = .returned (.int .i64 (if b then 1 else 0)) ∧ w = w' := by
  go_enter Tryd.func53, Tryd.ntmps53
  cases b
  all_goals
    go_wp2
    go_ret
    exact ⟨rfl, rfl⟩
theorem do_1 (a b : Int) (w : World) (ha : -8 ≤ a ∧ a ≤ 7) (hb : -8 ≤ b ∧ b ≤ 7) :
    Calls Tryd.prog 41 #[.int .i64 a, .int .i64 b] w fun e w' => e = .returned (.int .i64 (doop 0 a b)) ∧ w = w' := by
  go_enter Tryd.func41, Tryd.ntmps41
  go_wp2
  go_ret
  exact ⟨rfl, rfl⟩
theorem do_2 (a b : Int) (w : World) (ha : -8 ≤ a ∧ a ≤ 7) (hb : -8 ≤ b ∧ b ≤ 7) :
    Calls Tryd.prog 42 #[.int .i64 a, .int .i64 b] w fun e w' => e = .returned (.int .i64 (doop 1 a b)) ∧ w = w' := by
  go_enter Tryd.func42, Tryd.ntmps42
  go_wp2
  go_ret
  exact ⟨rfl, rfl⟩
theorem do_3 (a b : Int) (w : World) :
    Calls Tryd.prog 43 #[.int .i64 a, .int .i64 b] w fun e w' => e = .returned (.int .i64 (doop 2 a b)) ∧ w = w' := by
  go_enter Tryd.func43, Tryd.ntmps43
  go_wp2
  go_ret
  exact ⟨rfl, rfl⟩
theorem do_4 (a b : Int) (w : World) (hb : ¬ b = 0) :
    Calls Tryd.prog 44 #[.int .i64 a, .int .i64 b] w fun e w' => e = .returned (.int .i64 (doop 3 a b)) ∧ w = w' := by
  go_enter Tryd.func44, Tryd.ntmps44
  go_wp2
  go_ret
  exact ⟨rfl, rfl⟩
theorem do_5 (a b : Int) (w : World) (hb : ¬ b = 0) :
    Calls Tryd.prog 45 #[.int .i64 a, .int .i64 b] w fun e w' => e = .returned (.int .i64 (doop 4 a b)) ∧ w = w' := by
  go_enter Tryd.func45, Tryd.ntmps45
  go_wp2
  go_ret
  exact ⟨rfl, rfl⟩
theorem do_6 (a b : Int) (w : World) :
    Calls Tryd.prog 46 #[.int .i64 a, .int .i64 b] w fun e w' => e = .returned (.int .i64 (doop 5 a b)) ∧ w = w' := by
  go_enter Tryd.func46, Tryd.ntmps46
  go_wp2
  go_ret
  exact ⟨rfl, rfl⟩
theorem do_7 (a b : Int) (w : World) :
    Calls Tryd.prog 47 #[.int .i64 a, .int .i64 b] w fun e w' => e = .returned (.int .i64 (doop 6 a b)) ∧ w = w' := by
  go_enter Tryd.func47, Tryd.ntmps47
  go_wp2
  go_ret
  exact ⟨rfl, rfl⟩
theorem do_8 (a b : Int) (w : World) :
    Calls Tryd.prog 48 #[.int .i64 a, .int .i64 b] w fun e w' => e = .returned (.int .i64 (doop 7 a b)) ∧ w = w' := by
  go_enter Tryd.func48, Tryd.ntmps48
  go_wp2
  go_ret
  exact ⟨rfl, rfl⟩
theorem do_9 (a b : Int) (w : World) :
    Calls Tryd.prog 49 #[.int .i64 a, .int .i64 b] w fun e w' => e = .returned (.int .i64 (doop 8 a b)) ∧ w = w' := by
  have hh : 0 ≤ b % 4 ∧ b % 4 ≤ 3 := by omega
  go_enter Tryd.func49, Tryd.ntmps49
  go_wp2_with (go_at_call 50; refine (shift_any _ _).mono ?_; rintro e w' ⟨rfl, rfl⟩)
  go_ret
  exact ⟨rfl, rfl⟩
theorem do_10 (a b : Int) (w : World) :
    Calls Tryd.prog 51 #[.int .i64 a, .int .i64 b] w fun e w' => e = .returned (.int .i64 (doop 9 a b)) ∧ w = w' := by
  have hh : 0 ≤ b % 4 ∧ b % 4 ≤ 3 := by omega
  go_enter Tryd.func51, Tryd.ntmps51
  go_wp2_with (go_at_call 50; refine (shift_any _ _).mono ?_; rintro e w' ⟨rfl, rfl⟩)
  go_ret
  exact ⟨rfl, rfl⟩
theorem ret_i64 {a b : Int} (h : a = b) : Ending.returned (.int .i64 a) = .returned (.int .i64 b) := by rw [h]
theorem do_11 (a b : Int) (w : World) :
    Calls Tryd.prog 52 #[.int .i64 a, .int .i64 b] w fun e w' => e = .returned (.int .i64 (doop 10 a b)) ∧ w = w' := by
  by_cases h : a < b
  · have e : doop 10 a b = 1 := by simp only [doop]; rw [if_pos h]
    rw [e]
    go_enter Tryd.func52, Tryd.ntmps52
    go_wp2_with (go_at_call 53; refine (number_any _ _).mono ?_; rintro e w' ⟨rfl, rfl⟩)
    go_ret
    exact ⟨rfl, rfl⟩
  · have e : doop 10 a b = 0 := by simp only [doop]; rw [if_neg h]
    rw [e]
    go_enter Tryd.func52, Tryd.ntmps52
    go_wp2_with (go_at_call 53; refine (number_any _ _).mono ?_; rintro e w' ⟨rfl, rfl⟩)
    go_ret
    exact ⟨rfl, rfl⟩
theorem do_12 (a b : Int) (w : World) :
    Calls Tryd.prog 54 #[.int .i64 a, .int .i64 b] w fun e w' => e = .returned (.int .i64 (doop 11 a b)) ∧ w = w' := by
  by_cases h : a = b
  · have e : doop 11 a b = 1 := by simp only [doop]; rw [if_pos h]
    rw [e]
    go_enter Tryd.func54, Tryd.ntmps54
    go_wp2_with (go_at_call 53; refine (number_any _ _).mono ?_; rintro e w' ⟨rfl, rfl⟩)
    go_ret
    exact ⟨rfl, rfl⟩
  · have e : doop 11 a b = 0 := by simp only [doop]; rw [if_neg h]
    rw [e]
    go_enter Tryd.func54, Tryd.ntmps54
    go_wp2_with (go_at_call 53; refine (number_any _ _).mono ?_; rintro e w' ⟨rfl, rfl⟩)
    go_ret
    exact ⟨rfl, rfl⟩
theorem do_13 (a b : Int) (w : World) :
    Calls Tryd.prog 55 #[.int .i64 a, .int .i64 b] w fun e w' => e = .returned (.int .i64 (doop 12 a b)) ∧ w = w' := by
  rcases (show a = 0 ∨ ¬ a = 0 from by omega) with ha | ha
  all_goals rcases (show b = 0 ∨ ¬ b = 0 from by omega) with hb | hb
  all_goals
    go_enter Tryd.func55, Tryd.ntmps55
    go_wp2_with (go_at_call 53; refine (number_any _ _).mono ?_; rintro e w' ⟨rfl, rfl⟩)
    go_ret
    exact ⟨ret_i64 (by simp [doop, ha, hb]), rfl⟩
theorem do_14 (a b : Int) (w : World) :
    Calls Tryd.prog 56 #[.int .i64 a, .int .i64 b] w fun e w' => e = .returned (.int .i64 (doop 13 a b)) ∧ w = w' := by
  rcases (show a = 0 ∨ ¬ a = 0 from by omega) with ha | ha
  all_goals rcases (show b = 0 ∨ ¬ b = 0 from by omega) with hb | hb
  all_goals
    go_enter Tryd.func56, Tryd.ntmps56
    go_wp2_with (go_at_call 53; refine (number_any _ _).mono ?_; rintro e w' ⟨rfl, rfl⟩)
    go_ret
    exact ⟨ret_i64 (by simp [doop, ha, hb]), rfl⟩

/-- 'Op' at an operation that does not exist. -/
theorem op_none (op a b : Int) (w : World) (h : op < 0 ∨ 14 ≤ op) :
    Calls Tryd.prog 12 #[.int .i64 op, .int .i64 a, .int .i64 b] w fun e w' => e = .returned (.tuple #[.int .i64 (opR op a b), .int .i64 (opC op a b)]) ∧ Below w.heap.size w w' := by
  rw [opR_out h, opC_out h]
  rcases h with h | h
  · go_enter Tryd.func12, Tryd.ntmps12
    go_wp2
    go_ret2
    exact ⟨rfl, Below.refl _ _⟩
  · go_enter Tryd.func12, Tryd.ntmps12
    have h' : ¬ op < 0 := by omega
    go_wp2
    go_ret2
    exact ⟨rfl, Below.refl _ _⟩
theorem op_0 (a b : Int) (w : World) (hT : Tab w) :
    Calls Tryd.prog 12 #[.int .i64 0, .int .i64 a, .int .i64 b] w fun e w' => e = .returned (.tuple #[.int .i64 (wWrap (doop 0 (wWrap a) (wWrap b))), .int .i64 0]) ∧ Below w.heap.size w w' := by
  have hc0 : w.cell? ⟨0, 0, none⟩ = some (.func (.func 41) #[] #[]) := hT.cell 0 (by decide)
  have hc1 : w.cell? ⟨0, 1, none⟩ = some (.bool false) := hT.cell 1 (by decide)
  have hc2 : w.cell? ⟨0, 2, none⟩ = some (.bool false) := hT.cell 2 (by decide)
  clear hT
  go_enter Tryd.func12, Tryd.ntmps12
  go_wp2_with (first | (go_at_call 10; refine (wrap_any _ _).mono ?_; rintro e w' ⟨rfl, rfl⟩) | (go_at_call 41; refine (do_1 _ _ _ (wWrap_bd a) (wWrap_bd b)).mono ?_; rintro e w' ⟨rfl, rfl⟩))
  go_ret2
  exact ⟨rfl, (Below.refl _ _).alloc (Nat.le_refl _) _⟩
theorem op_1 (a b : Int) (w : World) (hT : Tab w) :
    Calls Tryd.prog 12 #[.int .i64 1, .int .i64 a, .int .i64 b] w fun e w' => e = .returned (.tuple #[.int .i64 (wWrap (doop 1 (wWrap a) (wWrap b))), .int .i64 0]) ∧ Below w.heap.size w w' := by
  have hc0 : w.cell? ⟨0, 3, none⟩ = some (.func (.func 42) #[] #[]) := hT.cell 3 (by decide)
  have hc1 : w.cell? ⟨0, 4, none⟩ = some (.bool false) := hT.cell 4 (by decide)
  have hc2 : w.cell? ⟨0, 5, none⟩ = some (.bool false) := hT.cell 5 (by decide)
  clear hT
  go_enter Tryd.func12, Tryd.ntmps12
  go_wp2_with (first | (go_at_call 10; refine (wrap_any _ _).mono ?_; rintro e w' ⟨rfl, rfl⟩) | (go_at_call 42; refine (do_2 _ _ _ (wWrap_bd a) (wWrap_bd b)).mono ?_; rintro e w' ⟨rfl, rfl⟩))
  go_ret2
  exact ⟨rfl, (Below.refl _ _).alloc (Nat.le_refl _) _⟩
theorem op_2 (a b : Int) (w : World) (hT : Tab w) :
    Calls Tryd.prog 12 #[.int .i64 2, .int .i64 a, .int .i64 b] w fun e w' => e = .returned (.tuple #[.int .i64 (wWrap (doop 2 (wWrap a) (wWrap b))), .int .i64 0]) ∧ Below w.heap.size w w' := by
  have hc0 : w.cell? ⟨0, 6, none⟩ = some (.func (.func 43) #[] #[]) := hT.cell 6 (by decide)
  have hc1 : w.cell? ⟨0, 7, none⟩ = some (.bool false) := hT.cell 7 (by decide)
  have hc2 : w.cell? ⟨0, 8, none⟩ = some (.bool false) := hT.cell 8 (by decide)
  clear hT
  go_enter Tryd.func12, Tryd.ntmps12
  go_wp2_with (first | (go_at_call 10; refine (wrap_any _ _).mono ?_; rintro e w' ⟨rfl, rfl⟩) | (go_at_call 43; refine (do_3 _ _ _).mono ?_; rintro e w' ⟨rfl, rfl⟩))
  go_ret2
  exact ⟨rfl, (Below.refl _ _).alloc (Nat.le_refl _) _⟩
theorem op_3 (a b : Int) (w : World) (hT : Tab w) (hz : ¬ wWrap b = 0) :
    Calls Tryd.prog 12 #[.int .i64 3, .int .i64 a, .int .i64 b] w fun e w' => e = .returned (.tuple #[.int .i64 (wWrap (doop 3 (wWrap a) (wWrap b))), .int .i64 0]) ∧ Below w.heap.size w w' := by
  have hc0 : w.cell? ⟨0, 9, none⟩ = some (.func (.func 44) #[] #[]) := hT.cell 9 (by decide)
  have hc1 : w.cell? ⟨0, 10, none⟩ = some (.bool true) := hT.cell 10 (by decide)
  have hc2 : w.cell? ⟨0, 11, none⟩ = some (.bool false) := hT.cell 11 (by decide)
  clear hT
  go_enter Tryd.func12, Tryd.ntmps12
  go_wp2_with (first | (go_at_call 10; refine (wrap_any _ _).mono ?_; rintro e w' ⟨rfl, rfl⟩) | (go_at_call 44; refine (do_4 _ _ _ hz).mono ?_; rintro e w' ⟨rfl, rfl⟩))
  go_ret2
  exact ⟨rfl, (Below.refl _ _).alloc (Nat.le_refl _) _⟩
theorem op_3z (a b : Int) (w : World) (hT : Tab w) (hz : wWrap b = 0) :
    Calls Tryd.prog 12 #[.int .i64 3, .int .i64 a, .int .i64 b] w fun e w' => e = .returned (.tuple #[.int .i64 0, .int .i64 2]) ∧ Below w.heap.size w w' := by
  have hc0 : w.cell? ⟨0, 9, none⟩ = some (.func (.func 44) #[] #[]) := hT.cell 9 (by decide)
  have hc1 : w.cell? ⟨0, 10, none⟩ = some (.bool true) := hT.cell 10 (by decide)
  have hc2 : w.cell? ⟨0, 11, none⟩ = some (.bool false) := hT.cell 11 (by decide)
  clear hT
  go_enter Tryd.func12, Tryd.ntmps12
  go_wp2_with (first | (go_at_call 10; refine (wrap_any _ _).mono ?_; rintro e w' ⟨rfl, rfl⟩))
  go_ret2
  exact ⟨rfl, (Below.refl _ _).alloc (Nat.le_refl _) _⟩
theorem op_4 (a b : Int) (w : World) (hT : Tab w) (hz : ¬ wWrap b = 0) :
    Calls Tryd.prog 12 #[.int .i64 4, .int .i64 a, .int .i64 b] w fun e w' => e = .returned (.tuple #[.int .i64 (wWrap (doop 4 (wWrap a) (wWrap b))), .int .i64 0]) ∧ Below w.heap.size w w' := by
  have hc0 : w.cell? ⟨0, 12, none⟩ = some (.func (.func 45) #[] #[]) := hT.cell 12 (by decide)
  have hc1 : w.cell? ⟨0, 13, none⟩ = some (.bool true) := hT.cell 13 (by decide)
  have hc2 : w.cell? ⟨0, 14, none⟩ = some (.bool false) := hT.cell 14 (by decide)
  clear hT
  go_enter Tryd.func12, Tryd.ntmps12
  go_wp2_with (first | (go_at_call 10; refine (wrap_any _ _).mono ?_; rintro e w' ⟨rfl, rfl⟩) | (go_at_call 45; refine (do_5 _ _ _ hz).mono ?_; rintro e w' ⟨rfl, rfl⟩))
  go_ret2
  exact ⟨rfl, (Below.refl _ _).alloc (Nat.le_refl _) _⟩
theorem op_4z (a b : Int) (w : World) (hT : Tab w) (hz : wWrap b = 0) :
    Calls Tryd.prog 12 #[.int .i64 4, .int .i64 a, .int .i64 b] w fun e w' => e = .returned (.tuple #[.int .i64 0, .int .i64 2]) ∧ Below w.heap.size w w' := by
  have hc0 : w.cell? ⟨0, 12, none⟩ = some (.func (.func 45) #[] #[]) := hT.cell 12 (by decide)
  have hc1 : w.cell? ⟨0, 13, none⟩ = some (.bool true) := hT.cell 13 (by decide)
  have hc2 : w.cell? ⟨0, 14, none⟩ = some (.bool false) := hT.cell 14 (by decide)
  clear hT
  go_enter Tryd.func12, Tryd.ntmps12
  go_wp2_with (first | (go_at_call 10; refine (wrap_any _ _).mono ?_; rintro e w' ⟨rfl, rfl⟩))
  go_ret2
  exact ⟨rfl, (Below.refl _ _).alloc (Nat.le_refl _) _⟩
theorem op_5 (a b : Int) (w : World) (hT : Tab w) :
    Calls Tryd.prog 12 #[.int .i64 5, .int .i64 a, .int .i64 b] w fun e w' => e = .returned (.tuple #[.int .i64 (wWrap (doop 5 (wWrap a) (wWrap b))), .int .i64 0]) ∧ Below w.heap.size w w' := by
  have hc0 : w.cell? ⟨0, 15, none⟩ = some (.func (.func 46) #[] #[]) := hT.cell 15 (by decide)
  have hc1 : w.cell? ⟨0, 16, none⟩ = some (.bool false) := hT.cell 16 (by decide)
  have hc2 : w.cell? ⟨0, 17, none⟩ = some (.bool false) := hT.cell 17 (by decide)
  clear hT
  go_enter Tryd.func12, Tryd.ntmps12
  go_wp2_with (first | (go_at_call 10; refine (wrap_any _ _).mono ?_; rintro e w' ⟨rfl, rfl⟩) | (go_at_call 46; refine (do_6 _ _ _).mono ?_; rintro e w' ⟨rfl, rfl⟩))
  go_ret2
  exact ⟨rfl, (Below.refl _ _).alloc (Nat.le_refl _) _⟩
theorem op_6 (a b : Int) (w : World) (hT : Tab w) :
    Calls Tryd.prog 12 #[.int .i64 6, .int .i64 a, .int .i64 b] w fun e w' => e = .returned (.tuple #[.int .i64 (wWrap (doop 6 (wWrap a) (wWrap b))), .int .i64 0]) ∧ Below w.heap.size w w' := by
  have hc0 : w.cell? ⟨0, 18, none⟩ = some (.func (.func 47) #[] #[]) := hT.cell 18 (by decide)
  have hc1 : w.cell? ⟨0, 19, none⟩ = some (.bool false) := hT.cell 19 (by decide)
  have hc2 : w.cell? ⟨0, 20, none⟩ = some (.bool false) := hT.cell 20 (by decide)
  clear hT
  go_enter Tryd.func12, Tryd.ntmps12
  go_wp2_with (first | (go_at_call 10; refine (wrap_any _ _).mono ?_; rintro e w' ⟨rfl, rfl⟩) | (go_at_call 47; refine (do_7 _ _ _).mono ?_; rintro e w' ⟨rfl, rfl⟩))
  go_ret2
  exact ⟨rfl, (Below.refl _ _).alloc (Nat.le_refl _) _⟩
theorem op_7 (a b : Int) (w : World) (hT : Tab w) :
    Calls Tryd.prog 12 #[.int .i64 7, .int .i64 a, .int .i64 b] w fun e w' => e = .returned (.tuple #[.int .i64 (wWrap (doop 7 (wWrap a) (wWrap b))), .int .i64 0]) ∧ Below w.heap.size w w' := by
  have hc0 : w.cell? ⟨0, 21, none⟩ = some (.func (.func 48) #[] #[]) := hT.cell 21 (by decide)
  have hc1 : w.cell? ⟨0, 22, none⟩ = some (.bool false) := hT.cell 22 (by decide)
  have hc2 : w.cell? ⟨0, 23, none⟩ = some (.bool false) := hT.cell 23 (by decide)
  clear hT
  go_enter Tryd.func12, Tryd.ntmps12
  go_wp2_with (first | (go_at_call 10; refine (wrap_any _ _).mono ?_; rintro e w' ⟨rfl, rfl⟩) | (go_at_call 48; refine (do_8 _ _ _).mono ?_; rintro e w' ⟨rfl, rfl⟩))
  go_ret2
  exact ⟨rfl, (Below.refl _ _).alloc (Nat.le_refl _) _⟩
theorem op_8 (a b : Int) (w : World) (hT : Tab w) :
    Calls Tryd.prog 12 #[.int .i64 8, .int .i64 a, .int .i64 b] w fun e w' => e = .returned (.tuple #[.int .i64 (wWrap (doop 8 (wWrap a) (wWrap b))), .int .i64 0]) ∧ Below w.heap.size w w' := by
  have hc0 : w.cell? ⟨0, 24, none⟩ = some (.func (.func 49) #[] #[]) := hT.cell 24 (by decide)
  have hc1 : w.cell? ⟨0, 25, none⟩ = some (.bool false) := hT.cell 25 (by decide)
  have hc2 : w.cell? ⟨0, 26, none⟩ = some (.bool false) := hT.cell 26 (by decide)
  clear hT
  go_enter Tryd.func12, Tryd.ntmps12
  go_wp2_with (first | (go_at_call 10; refine (wrap_any _ _).mono ?_; rintro e w' ⟨rfl, rfl⟩) | (go_at_call 49; refine (do_9 _ _ _).mono ?_; rintro e w' ⟨rfl, rfl⟩))
  go_ret2
  exact ⟨rfl, (Below.refl _ _).alloc (Nat.le_refl _) _⟩
theorem op_9 (a b : Int) (w : World) (hT : Tab w) :
    Calls Tryd.prog 12 #[.int .i64 9, .int .i64 a, .int .i64 b] w fun e w' => e = .returned (.tuple #[.int .i64 (wWrap (doop 9 (wWrap a) (wWrap b))), .int .i64 0]) ∧ Below w.heap.size w w' := by
  have hc0 : w.cell? ⟨0, 27, none⟩ = some (.func (.func 51) #[] #[]) := hT.cell 27 (by decide)
  have hc1 : w.cell? ⟨0, 28, none⟩ = some (.bool false) := hT.cell 28 (by decide)
  have hc2 : w.cell? ⟨0, 29, none⟩ = some (.bool false) := hT.cell 29 (by decide)
  clear hT
  go_enter Tryd.func12, Tryd.ntmps12
  go_wp2_with (first | (go_at_call 10; refine (wrap_any _ _).mono ?_; rintro e w' ⟨rfl, rfl⟩) | (go_at_call 51; refine (do_10 _ _ _).mono ?_; rintro e w' ⟨rfl, rfl⟩))
  go_ret2
  exact ⟨rfl, (Below.refl _ _).alloc (Nat.le_refl _) _⟩
theorem op_10 (a b : Int) (w : World) (hT : Tab w) :
    Calls Tryd.prog 12 #[.int .i64 10, .int .i64 a, .int .i64 b] w fun e w' => e = .returned (.tuple #[.int .i64 (wWrap (doop 10 (wWrap a) (wWrap b))), .int .i64 0]) ∧ Below w.heap.size w w' := by
  have hc0 : w.cell? ⟨0, 30, none⟩ = some (.func (.func 52) #[] #[]) := hT.cell 30 (by decide)
  have hc1 : w.cell? ⟨0, 31, none⟩ = some (.bool false) := hT.cell 31 (by decide)
  have hc2 : w.cell? ⟨0, 32, none⟩ = some (.bool true) := hT.cell 32 (by decide)
  clear hT
  go_enter Tryd.func12, Tryd.ntmps12
  go_wp2_with (first | (go_at_call 10; refine (wrap_any _ _).mono ?_; rintro e w' ⟨rfl, rfl⟩) | (go_at_call 52; refine (do_11 _ _ _).mono ?_; rintro e w' ⟨rfl, rfl⟩))
  go_ret2
  exact ⟨rfl, (Below.refl _ _).alloc (Nat.le_refl _) _⟩
theorem op_11 (a b : Int) (w : World) (hT : Tab w) :
    Calls Tryd.prog 12 #[.int .i64 11, .int .i64 a, .int .i64 b] w fun e w' => e = .returned (.tuple #[.int .i64 (wWrap (doop 11 (wWrap a) (wWrap b))), .int .i64 0]) ∧ Below w.heap.size w w' := by
  have hc0 : w.cell? ⟨0, 33, none⟩ = some (.func (.func 54) #[] #[]) := hT.cell 33 (by decide)
  have hc1 : w.cell? ⟨0, 34, none⟩ = some (.bool false) := hT.cell 34 (by decide)
  have hc2 : w.cell? ⟨0, 35, none⟩ = some (.bool true) := hT.cell 35 (by decide)
  clear hT
  go_enter Tryd.func12, Tryd.ntmps12
  go_wp2_with (first | (go_at_call 10; refine (wrap_any _ _).mono ?_; rintro e w' ⟨rfl, rfl⟩) | (go_at_call 54; refine (do_12 _ _ _).mono ?_; rintro e w' ⟨rfl, rfl⟩))
  go_ret2
  exact ⟨rfl, (Below.refl _ _).alloc (Nat.le_refl _) _⟩
theorem op_12 (a b : Int) (w : World) (hT : Tab w) :
    Calls Tryd.prog 12 #[.int .i64 12, .int .i64 a, .int .i64 b] w fun e w' => e = .returned (.tuple #[.int .i64 (wWrap (doop 12 (wWrap a) (wWrap b))), .int .i64 0]) ∧ Below w.heap.size w w' := by
  have hc0 : w.cell? ⟨0, 36, none⟩ = some (.func (.func 55) #[] #[]) := hT.cell 36 (by decide)
  have hc1 : w.cell? ⟨0, 37, none⟩ = some (.bool false) := hT.cell 37 (by decide)
  have hc2 : w.cell? ⟨0, 38, none⟩ = some (.bool true) := hT.cell 38 (by decide)
  clear hT
  go_enter Tryd.func12, Tryd.ntmps12
  go_wp2_with (first | (go_at_call 10; refine (wrap_any _ _).mono ?_; rintro e w' ⟨rfl, rfl⟩) | (go_at_call 55; refine (do_13 _ _ _).mono ?_; rintro e w' ⟨rfl, rfl⟩))
  go_ret2
  exact ⟨rfl, (Below.refl _ _).alloc (Nat.le_refl _) _⟩
theorem op_13 (a b : Int) (w : World) (hT : Tab w) :
    Calls Tryd.prog 12 #[.int .i64 13, .int .i64 a, .int .i64 b] w fun e w' => e = .returned (.tuple #[.int .i64 (wWrap (doop 13 (wWrap a) (wWrap b))), .int .i64 0]) ∧ Below w.heap.size w w' := by
  have hc0 : w.cell? ⟨0, 39, none⟩ = some (.func (.func 56) #[] #[]) := hT.cell 39 (by decide)
  have hc1 : w.cell? ⟨0, 40, none⟩ = some (.bool false) := hT.cell 40 (by decide)
  have hc2 : w.cell? ⟨0, 41, none⟩ = some (.bool true) := hT.cell 41 (by decide)
  clear hT
  go_enter Tryd.func12, Tryd.ntmps12
  go_wp2_with (first | (go_at_call 10; refine (wrap_any _ _).mono ?_; rintro e w' ⟨rfl, rfl⟩) | (go_at_call 56; refine (do_14 _ _ _).mono ?_; rintro e w' ⟨rfl, rfl⟩))
  go_ret2
  exact ⟨rfl, (Below.refl _ _).alloc (Nat.le_refl _) _⟩

/-- 'Op', for every operation and all operands. -/
theorem op_any {B : Nat} {w0 : World} (op a b : Int) (w : World) (hN : Nx B w0 w) :
    Calls Tryd.prog 12 #[.int .i64 op, .int .i64 a, .int .i64 b] w fun e w' => e = .returned (.tuple #[.int .i64 (opR op a b), .int .i64 (opC op a b)]) ∧ Nx B w0 w' := by
  have hT := hN.tab
  suffices h : Calls Tryd.prog 12 #[.int .i64 op, .int .i64 a, .int .i64 b] w fun e w' => e = .returned (.tuple #[.int .i64 (opR op a b), .int .i64 (opC op a b)]) ∧ Below w.heap.size w w' from
    h.mono fun e w' ⟨he, hb⟩ => ⟨he, hN.next hb⟩
  rcases (show (op < 0 ∨ 14 ≤ op) ∨ op = 0 ∨ op = 1 ∨ op = 2 ∨ op = 3 ∨ op = 4 ∨ op = 5 ∨ op = 6 ∨ op = 7 ∨ op = 8 ∨ op = 9 ∨ op = 10 ∨ op = 11 ∨ op = 12 ∨ op = 13 from by omega) with h | rfl | rfl | rfl | rfl | rfl | rfl | rfl | rfl | rfl | rfl | rfl | rfl | rfl | rfl
  · exact op_none op a b w h
  · have e1 : opR 0 a b = wWrap (doop 0 (wWrap a) (wWrap b)) := by unfold opR; rw [if_neg (by decide), if_neg (fun h => absurd h.1 (by decide))]; rfl
    have e2 : opC 0 a b = 0 := by unfold opC; rw [if_neg (fun h => absurd h.1 (by decide))]
    rw [e1, e2]; exact op_0 a b w hT
  · have e1 : opR 1 a b = wWrap (doop 1 (wWrap a) (wWrap b)) := by unfold opR; rw [if_neg (by decide), if_neg (fun h => absurd h.1 (by decide))]; rfl
    have e2 : opC 1 a b = 0 := by unfold opC; rw [if_neg (fun h => absurd h.1 (by decide))]
    rw [e1, e2]; exact op_1 a b w hT
  · have e1 : opR 2 a b = wWrap (doop 2 (wWrap a) (wWrap b)) := by unfold opR; rw [if_neg (by decide), if_neg (fun h => absurd h.1 (by decide))]; rfl
    have e2 : opC 2 a b = 0 := by unfold opC; rw [if_neg (fun h => absurd h.1 (by decide))]
    rw [e1, e2]; exact op_2 a b w hT
  · by_cases hz : wWrap b = 0
    · have e1 : opR 3 a b = 0 := by unfold opR; rw [if_neg (by decide), if_pos ⟨by decide, hz⟩]
      have e2 : opC 3 a b = 2 := by unfold opC; rw [if_pos ⟨by decide, hz⟩]
      rw [e1, e2]; exact op_3z a b w hT hz
    · have e1 : opR 3 a b = wWrap (doop 3 (wWrap a) (wWrap b)) := by unfold opR; rw [if_neg (by decide), if_neg (fun h => hz h.2)]; rfl
      have e2 : opC 3 a b = 0 := by unfold opC; rw [if_neg (fun h => hz h.2)]
      rw [e1, e2]; exact op_3 a b w hT hz
  · by_cases hz : wWrap b = 0
    · have e1 : opR 4 a b = 0 := by unfold opR; rw [if_neg (by decide), if_pos ⟨by decide, hz⟩]
      have e2 : opC 4 a b = 2 := by unfold opC; rw [if_pos ⟨by decide, hz⟩]
      rw [e1, e2]; exact op_4z a b w hT hz
    · have e1 : opR 4 a b = wWrap (doop 4 (wWrap a) (wWrap b)) := by unfold opR; rw [if_neg (by decide), if_neg (fun h => hz h.2)]; rfl
      have e2 : opC 4 a b = 0 := by unfold opC; rw [if_neg (fun h => hz h.2)]
      rw [e1, e2]; exact op_4 a b w hT hz
  · have e1 : opR 5 a b = wWrap (doop 5 (wWrap a) (wWrap b)) := by unfold opR; rw [if_neg (by decide), if_neg (fun h => absurd h.1 (by decide))]; rfl
    have e2 : opC 5 a b = 0 := by unfold opC; rw [if_neg (fun h => absurd h.1 (by decide))]
    rw [e1, e2]; exact op_5 a b w hT
  · have e1 : opR 6 a b = wWrap (doop 6 (wWrap a) (wWrap b)) := by unfold opR; rw [if_neg (by decide), if_neg (fun h => absurd h.1 (by decide))]; rfl
    have e2 : opC 6 a b = 0 := by unfold opC; rw [if_neg (fun h => absurd h.1 (by decide))]
    rw [e1, e2]; exact op_6 a b w hT
  · have e1 : opR 7 a b = wWrap (doop 7 (wWrap a) (wWrap b)) := by unfold opR; rw [if_neg (by decide), if_neg (fun h => absurd h.1 (by decide))]; rfl
    have e2 : opC 7 a b = 0 := by unfold opC; rw [if_neg (fun h => absurd h.1 (by decide))]
    rw [e1, e2]; exact op_7 a b w hT
  · have e1 : opR 8 a b = wWrap (doop 8 (wWrap a) (wWrap b)) := by unfold opR; rw [if_neg (by decide), if_neg (fun h => absurd h.1 (by decide))]; rfl
    have e2 : opC 8 a b = 0 := by unfold opC; rw [if_neg (fun h => absurd h.1 (by decide))]
    rw [e1, e2]; exact op_8 a b w hT
  · have e1 : opR 9 a b = wWrap (doop 9 (wWrap a) (wWrap b)) := by unfold opR; rw [if_neg (by decide), if_neg (fun h => absurd h.1 (by decide))]; rfl
    have e2 : opC 9 a b = 0 := by unfold opC; rw [if_neg (fun h => absurd h.1 (by decide))]
    rw [e1, e2]; exact op_9 a b w hT
  · have e1 : opR 10 a b = wWrap (doop 10 (wWrap a) (wWrap b)) := by unfold opR; rw [if_neg (by decide), if_neg (fun h => absurd h.1 (by decide))]; rfl
    have e2 : opC 10 a b = 0 := by unfold opC; rw [if_neg (fun h => absurd h.1 (by decide))]
    rw [e1, e2]; exact op_10 a b w hT
  · have e1 : opR 11 a b = wWrap (doop 11 (wWrap a) (wWrap b)) := by unfold opR; rw [if_neg (by decide), if_neg (fun h => absurd h.1 (by decide))]; rfl
    have e2 : opC 11 a b = 0 := by unfold opC; rw [if_neg (fun h => absurd h.1 (by decide))]
    rw [e1, e2]; exact op_11 a b w hT
  · have e1 : opR 12 a b = wWrap (doop 12 (wWrap a) (wWrap b)) := by unfold opR; rw [if_neg (by decide), if_neg (fun h => absurd h.1 (by decide))]; rfl
    have e2 : opC 12 a b = 0 := by unfold opC; rw [if_neg (fun h => absurd h.1 (by decide))]
    rw [e1, e2]; exact op_12 a b w hT
  · have e1 : opR 13 a b = wWrap (doop 13 (wWrap a) (wWrap b)) := by unfold opR; rw [if_neg (by decide), if_neg (fun h => absurd h.1 (by decide))]; rfl
    have e2 : opC 13 a b = 0 := by unfold opC; rw [if_neg (fun h => absurd h.1 (by decide))]
    rw [e1, e2]; exact op_13 a b w hT

theorem truth_any (op : Int) (w : World) (hT : Tab w) :
    Calls Tryd.prog 16 #[.int .i64 op] w fun e w' => e = .returned (.bool (truth op)) ∧ w = w' := by
  rcases (show (op < 0 ∨ 14 ≤ op) ∨ op = 0 ∨ op = 1 ∨ op = 2 ∨ op = 3 ∨ op = 4 ∨ op = 5 ∨ op = 6 ∨ op = 7 ∨ op = 8 ∨ op = 9 ∨ op = 10 ∨ op = 11 ∨ op = 12 ∨ op = 13 from by omega) with h | h | h | h | h | h | h | h | h | h | h | h | h | h | h
  · have e : truth op = false := by unfold truth; rw [decide_eq_false_iff_not]; omega
    rw [e]
    clear hT
    rcases h with h | h
    · go_enter Tryd.func16, Tryd.ntmps16
      go_wp2
      go_ret
      exact ⟨rfl, rfl⟩
    · have h' : ¬ op < 0 := by omega
      go_enter Tryd.func16, Tryd.ntmps16
      go_wp2
      go_ret
      exact ⟨rfl, rfl⟩
  · subst h
    have hc : w.cell? ⟨0, 2, none⟩ = some (.bool false) := hT.cell 2 (by decide)
    clear hT
    go_enter Tryd.func16, Tryd.ntmps16
    go_wp2
    go_ret
    exact ⟨rfl, rfl⟩
  · subst h
    have hc : w.cell? ⟨0, 5, none⟩ = some (.bool false) := hT.cell 5 (by decide)
    clear hT
    go_enter Tryd.func16, Tryd.ntmps16
    go_wp2
    go_ret
    exact ⟨rfl, rfl⟩
  · subst h
    have hc : w.cell? ⟨0, 8, none⟩ = some (.bool false) := hT.cell 8 (by decide)
    clear hT
    go_enter Tryd.func16, Tryd.ntmps16
    go_wp2
    go_ret
    exact ⟨rfl, rfl⟩
  · subst h
    have hc : w.cell? ⟨0, 11, none⟩ = some (.bool false) := hT.cell 11 (by decide)
    clear hT
    go_enter Tryd.func16, Tryd.ntmps16
    go_wp2
    go_ret
    exact ⟨rfl, rfl⟩
  · subst h
    have hc : w.cell? ⟨0, 14, none⟩ = some (.bool false) := hT.cell 14 (by decide)
    clear hT
    go_enter Tryd.func16, Tryd.ntmps16
    go_wp2
    go_ret
    exact ⟨rfl, rfl⟩
  · subst h
    have hc : w.cell? ⟨0, 17, none⟩ = some (.bool false) := hT.cell 17 (by decide)
    clear hT
    go_enter Tryd.func16, Tryd.ntmps16
    go_wp2
    go_ret
    exact ⟨rfl, rfl⟩
  · subst h
    have hc : w.cell? ⟨0, 20, none⟩ = some (.bool false) := hT.cell 20 (by decide)
    clear hT
    go_enter Tryd.func16, Tryd.ntmps16
    go_wp2
    go_ret
    exact ⟨rfl, rfl⟩
  · subst h
    have hc : w.cell? ⟨0, 23, none⟩ = some (.bool false) := hT.cell 23 (by decide)
    clear hT
    go_enter Tryd.func16, Tryd.ntmps16
    go_wp2
    go_ret
    exact ⟨rfl, rfl⟩
  · subst h
    have hc : w.cell? ⟨0, 26, none⟩ = some (.bool false) := hT.cell 26 (by decide)
    clear hT
    go_enter Tryd.func16, Tryd.ntmps16
    go_wp2
    go_ret
    exact ⟨rfl, rfl⟩
  · subst h
    have hc : w.cell? ⟨0, 29, none⟩ = some (.bool false) := hT.cell 29 (by decide)
    clear hT
    go_enter Tryd.func16, Tryd.ntmps16
    go_wp2
    go_ret
    exact ⟨rfl, rfl⟩
  · subst h
    have hc : w.cell? ⟨0, 32, none⟩ = some (.bool true) := hT.cell 32 (by decide)
    clear hT
    go_enter Tryd.func16, Tryd.ntmps16
    go_wp2
    go_ret
    exact ⟨rfl, rfl⟩
  · subst h
    have hc : w.cell? ⟨0, 35, none⟩ = some (.bool true) := hT.cell 35 (by decide)
    clear hT
    go_enter Tryd.func16, Tryd.ntmps16
    go_wp2
    go_ret
    exact ⟨rfl, rfl⟩
  · subst h
    have hc : w.cell? ⟨0, 38, none⟩ = some (.bool true) := hT.cell 38 (by decide)
    clear hT
    go_enter Tryd.func16, Tryd.ntmps16
    go_wp2
    go_ret
    exact ⟨rfl, rfl⟩
  · subst h
    have hc : w.cell? ⟨0, 41, none⟩ = some (.bool true) := hT.cell 41 (by decide)
    clear hT
    go_enter Tryd.func16, Tryd.ntmps16
    go_wp2
    go_ret
    exact ⟨rfl, rfl⟩
end Go.Proofs.YtdpabdlbohdkjaaDoor
