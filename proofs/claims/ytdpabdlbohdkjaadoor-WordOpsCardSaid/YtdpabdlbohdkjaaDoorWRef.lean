/-
  The walks of the reference of layer 4 (package scoriaref04): Wrap, Bits, Truth and Op return what the plain Lean functions of WSpec say.
-/
import Derived.Test.YtdpabdlbohdkjaaDoorWLaws
import Derived.Lib.Hide
namespace Go.Proofs.YtdpabdlbohdkjaaDoor
open Go Go.RowKit

theorem tmod_bd (n : Int) : -16 < n.tmod 16 ∧ n.tmod 16 < 16 ∧ (n.tmod 16) % 16 = n % 16 := by
  rcases Int.lt_or_le n 0 with h | h
  · have e : n.tmod 16 = -((-n) % 16) := by rw [← Int.tmod_eq_emod_of_nonneg (by omega : 0 ≤ -n), Int.neg_tmod, Int.neg_neg]
    rw [e]; omega
  · rw [Int.tmod_eq_emod_of_nonneg h]; omega
theorem rwrap_any (n : Int) (w : World) :
    Calls Tryd.prog 14 #[.int .i64 n] w fun e w' => e = .returned (.int .i64 (wWrap n)) ∧ w = w' := by
  obtain ⟨h1, h2, h3⟩ := tmod_bd n
  have hw : (n.tmod 16 < -8 ∧ wWrap n = n.tmod 16 + 16) ∨ (7 < n.tmod 16 ∧ wWrap n = n.tmod 16 - 16) ∨ (-8 ≤ n.tmod 16 ∧ n.tmod 16 ≤ 7 ∧ wWrap n = n.tmod 16) := by
    unfold wWrap; split <;> omega
  clear h3
  rcases hw with ⟨h, e⟩ | ⟨h, e⟩ | ⟨h, h', e⟩
  all_goals
    rw [e]
    clear e
    go_enter Tryd.func14, Tryd.ntmps14
    go_wp2
    go_ret
    exact ⟨rfl, rfl⟩
theorem rbits_any (n : Int) (w : World) :
    Calls Tryd.prog 15 #[.int .i64 n] w fun e w' => e = .returned (.int .i64 (n % 16)) ∧ w = w' := by
  have hb := wWrap_bd n
  have e : (wWrap n + 16) % 16 = n % 16 := by unfold wWrap; split <;> omega
  rw [← e]
  clear e
  go_enter Tryd.func15, Tryd.ntmps15
  go_wp2_with (go_at_call 14; refine (rwrap_any _ _).mono ?_; rintro e w' ⟨rfl, rfl⟩)
  go_ret
  exact ⟨by first | rfl | simp, rfl⟩
theorem rtruth_any (op : Int) (w : World) :
    Calls Tryd.prog 17 #[.int .i64 op] w fun e w' => e = .returned (.bool (truth op)) ∧ w = w' := by
  rcases (show (op < 10 ∨ 14 ≤ op) ∨ op = 10 ∨ op = 11 ∨ op = 12 ∨ op = 13 from by omega) with h | rfl | rfl | rfl | rfl
  · have e : truth op = false := by unfold truth; rw [decide_eq_false_iff_not]; omega
    have k1 : (op == 10) = false := by rw [beq_eq_false_iff_ne]; omega
    have k2 : (op == 11) = false := by rw [beq_eq_false_iff_ne]; omega
    have k3 : (op == 12) = false := by rw [beq_eq_false_iff_ne]; omega
    have k4 : (op == 13) = false := by rw [beq_eq_false_iff_ne]; omega
    rw [e]
    clear h e
    all_goals
      go_enter Tryd.func17, Tryd.ntmps17
      go_wp2
      go_ret
      exact ⟨rfl, rfl⟩
  all_goals
    go_enter Tryd.func17, Tryd.ntmps17
    go_wp2
    go_ret
    exact ⟨rfl, rfl⟩
theorem rnumber_any (b : Bool) (w : World) :
    Calls Tryd.prog 24 #[.bool b] w fun e w' => e = .returned (.int .i64 (if b then 1 else 0)) ∧ w = w' := by
  go_enter Tryd.func24, Tryd.ntmps24
  cases b
  all_goals
    go_wp2
    go_ret
    exact ⟨rfl, rfl⟩

theorem quo_of {a b x : Int} {k : Nat} (hx : x = a - k * b) (h0 : 0 ≤ x) (h1 : x < b) : (k : Int) = a.tdiv b := by
  have ha : 0 ≤ a := by
    have : 0 ≤ (k : Int) * b := Int.mul_nonneg (by omega) (by omega)
    omega
  rw [Int.tdiv_eq_ediv_of_nonneg ha]
  have hb : 0 < b := by omega
  have e : a = x + b * k := by rw [hx, Int.mul_comm]; omega
  rw [e, Int.add_mul_ediv_left _ _ (by omega), Int.ediv_eq_zero_of_lt h0 h1]; omega
theorem rquo_pos (a b : Int) (w : World) (ha : 0 ≤ a ∧ a ≤ 8) (hb : 1 ≤ b ∧ b ≤ 8) :
    Calls Tryd.prog 20 #[.int .i64 a, .int .i64 b] w fun e w' => e = .returned (.int .i64 (a.tdiv b)) ∧ w = w' := by
  go_enter Tryd.func20, Tryd.ntmps20
  go_wp2_with fail
  go_loop [0, 5] (fun x n => ∃ (k : Nat) (y : Int), x = .int .i64 y ∧ n = .int .i64 k ∧ 0 ≤ y ∧ (k : Int) + y ≤ a ∧ Hid (y = a - k * b)) (fun x _ => (intOf x).toNat)
  case atStart => exact ⟨0, a, rfl, rfl, ha.1, by omega, Lib.hid (by simp)⟩
  case round =>
    obtain ⟨k, y, rfl, rfl, hy, hk, HY⟩ := hrel
    by_cases hlt : b ≤ y
    · go_wp2_with fail
      go_round
      case rel => exact ⟨k + 1, y - b, rfl, by go_num, by omega, by omega, Lib.hid (by rw [HY.out]; push_cast; rw [Int.add_mul]; omega)⟩
      case measure => simp [intOf]; omega
    · go_wp2_with fail
      go_ret
      exact ⟨ret_i64 (quo_of HY.out hy (by omega)), rfl⟩
theorem rquo_any (a b : Int) (w : World) (ha : -8 ≤ a ∧ a ≤ 7) (hb : -8 ≤ b ∧ b ≤ 7) (hz : ¬ b = 0) :
    Calls Tryd.prog 20 #[.int .i64 a, .int .i64 b] w fun e w' => e = .returned (.int .i64 (a.tdiv b)) ∧ w = w' := by
  have nonneg : ∀ (a b : Int) (w : World), 0 ≤ a ∧ a ≤ 8 → -8 ≤ b ∧ b ≤ 7 → ¬ b = 0 → Calls Tryd.prog 20 #[.int .i64 a, .int .i64 b] w fun e w' => e = .returned (.int .i64 (a.tdiv b)) ∧ w = w' := by
    intro a b w ha hb hz
    by_cases hp : 1 ≤ b
    · exact rquo_pos a b w ha ⟨hp, by omega⟩
    · have hn : b < 0 := by omega
      have hq : a.tdiv b = -(a.tdiv (-b)) := by rw [Int.tdiv_neg, Int.neg_neg]
      have hbd : 0 ≤ a.tdiv (-b) ∧ a.tdiv (-b) ≤ a := by
        rw [Int.tdiv_eq_ediv_of_nonneg ha.1]
        exact ⟨Int.ediv_nonneg ha.1 (by omega), Int.ediv_le_self _ ha.1⟩
      have hc := fun w => rquo_pos a (-b) w ha (by omega)
      rw [hq]
      generalize a.tdiv (-b) = q at *
      have HC := Lib.hid hc
      clear hq hc
      go_enter Tryd.func20, Tryd.ntmps20
      go_wp2_with (go_at_call 20; refine (HC.out _).mono ?_; rintro e w' ⟨rfl, rfl⟩)
      go_ret
      exact ⟨rfl, rfl⟩
  by_cases hp : 0 ≤ a
  · exact nonneg a b w ⟨hp, by omega⟩ hb hz
  · have hn : a < 0 := by omega
    have hq : a.tdiv b = -((-a).tdiv b) := by rw [Int.neg_tdiv, Int.neg_neg]
    have hbd : -8 ≤ (-a).tdiv b ∧ (-a).tdiv b ≤ 8 := by
      have h1 := Int.natAbs_tdiv (-a) b
      have h2 : (-a).natAbs.div b.natAbs ≤ (-a).natAbs := Nat.div_le_self _ _
      have h3 : (-a).natAbs ≤ 8 := by omega
      rw [← h1] at h2
      omega
    have hc := fun w => nonneg (-a) b w (by omega) hb hz
    rw [hq]
    generalize (-a).tdiv b = q at *
    have HC := Lib.hid hc
    clear hq hc nonneg
    go_enter Tryd.func20, Tryd.ntmps20
    go_wp2_with (go_at_call 20; refine (HC.out _).mono ?_; rintro e w' ⟨rfl, rfl⟩)
    go_ret
    exact ⟨rfl, rfl⟩

/-! Bits, one by one. -/
def comb (one two both p q : Bool) : Bool := (p && q && both) || (p && !q && one) || (!p && q && two)
def bsum (one two both : Bool) (x y : Int) : Nat → Int
  | 0 => 0
  | i + 1 => bsum one two both x y i + if comb one two both (x / 2 ^ i % 2 == 1) (y / 2 ^ i % 2 == 1) then 2 ^ i else 0
theorem bsum_bd (one two both : Bool) (x y : Int) : ∀ i, 0 ≤ bsum one two both x y i ∧ bsum one two both x y i < 2 ^ i
  | 0 => by simp [bsum]
  | i + 1 => by
    have := bsum_bd one two both x y i
    rw [Int.pow_succ]
    simp only [bsum]
    split <;> omega
theorem pow_small (i : Nat) (h : i ≤ 4) : 1 ≤ (2 : Int) ^ i ∧ (2 : Int) ^ i ≤ 16 := by
  rcases (show i = 0 ∨ i = 1 ∨ i = 2 ∨ i = 3 ∨ i = 4 from by omega) with rfl | rfl | rfl | rfl | rfl <;> decide
theorem bsum_step (one two both : Bool) (x y : Int) (i : Nat) (p q : Bool) (hp : (x / 2 ^ i % 2 == 1) = p) (hq : (y / 2 ^ i % 2 == 1) = q) :
    bsum one two both x y (i + 1) = bsum one two both x y i + if comb one two both p q then 2 ^ i else 0 := by
  simp only [bsum, hp, hq]
theorem comb_tt (one two both : Bool) : comb one two both true true = both := by cases one <;> cases two <;> cases both <;> rfl
theorem comb_tf (one two both : Bool) : comb one two both true false = one := by cases one <;> cases two <;> cases both <;> rfl
theorem comb_ft (one two both : Bool) : comb one two both false true = two := by cases one <;> cases two <;> cases both <;> rfl
theorem comb_ff (one two both : Bool) : comb one two both false false = false := by cases one <;> cases two <;> cases both <;> rfl
structure BitsAt (one two both : Bool) (a b : Int) (k : Nat) (X Y S V : Int) : Prop where
  x : X = a / 2 ^ k
  y : Y = b / 2 ^ k
  s : S = bsum one two both a b k
  v : V = 2 ^ k
theorem BitsAt.next {one two both : Bool} {a b : Int} {k : Nat} {X Y S V : Int} (h : BitsAt one two both a b k X Y S V) {p q c : Bool} (hp : (X % 2 == 1) = p) (hq : (Y % 2 == 1) = q) (hc : comb one two both p q = c) :
    BitsAt one two both a b (k + 1) (X / 2) (Y / 2) (S + if c then V else 0) (V * 2) := by
  have h2 : (0 : Int) < 2 ^ k := Int.pow_pos (by decide)
  refine ⟨?_, ?_, ?_, ?_⟩
  · rw [h.x, Int.pow_succ, Int.ediv_ediv_of_nonneg (by omega)]
  · rw [h.y, Int.pow_succ, Int.ediv_ediv_of_nonneg (by omega)]
  · rw [h.s, h.v, bsum_step _ _ _ _ _ _ p q (by rw [← h.x]; exact hp) (by rw [← h.y]; exact hq), hc]
  · rw [h.v, Int.pow_succ]
theorem BitsAt.bd {one two both : Bool} {a b : Int} {k : Nat} {X Y S V : Int} (h : BitsAt one two both (a % 16) (b % 16) k X Y S V) (hk : k ≤ 4) :
    0 ≤ X ∧ X ≤ 15 ∧ 0 ≤ Y ∧ Y ≤ 15 ∧ 0 ≤ S ∧ S ≤ 15 ∧ 1 ≤ V ∧ V ≤ 16 := by
  have h2 := pow_small k hk
  have hs := bsum_bd one two both (a % 16) (b % 16) k
  have hx : 0 ≤ a % 16 / 2 ^ k := Int.ediv_nonneg (by omega) (by omega)
  have hx' : a % 16 / 2 ^ k ≤ 15 := Int.le_trans (Int.ediv_le_self _ (by omega)) (by omega)
  have hy : 0 ≤ b % 16 / 2 ^ k := Int.ediv_nonneg (by omega) (by omega)
  have hy' : b % 16 / 2 ^ k ≤ 15 := Int.le_trans (Int.ediv_le_self _ (by omega)) (by omega)
  rw [h.x, h.y, h.s, h.v]; omega
set_option maxHeartbeats 1000000 in
theorem rbitwise_any (a b : Int) (one two both : Bool) (w : World) :
    Calls Tryd.prog 21 #[.int .i64 a, .int .i64 b, .bool one, .bool two, .bool both] w fun e w' => e = .returned (.int .i64 (wWrap (bsum one two both (a % 16) (b % 16) 4))) ∧ w = w' := by
  go_enter Tryd.func21, Tryd.ntmps21
  go_wp2_with (go_at_call 15; refine (rbits_any _ _).mono ?_; rintro e w' ⟨rfl, rfl⟩)
  go_loop [11, 12, 13, 14, 15] (fun x y s v i => ∃ (k : Nat) (X Y S V : Int), k ≤ 4 ∧ x = .int .i64 X ∧ y = .int .i64 Y ∧ s = .int .i64 S ∧ v = .int .i64 V ∧ i = .int .i64 k ∧ BitsAt one two both (a % 16) (b % 16) k X Y S V) (fun _ _ _ _ i => 4 - (intOf i).toNat)
  case atStart => exact ⟨0, _, _, _, _, by omega, rfl, rfl, rfl, rfl, rfl, ⟨by simp, by simp, rfl, rfl⟩⟩
  case round =>
    obtain ⟨k, X, Y, S, V, hk, rfl, rfl, rfl, rfl, rfl, HB⟩ := hrel
    obtain ⟨b1, b2, b3, b4, b5, b6, b7, b8⟩ := HB.bd hk
    by_cases hlt : k < 4
    · cases hp : (X % 2 == 1) <;> cases hq : (Y % 2 == 1)
      · have HN := HB.next hp hq (comb_ff one two both)
        go_wp2
        go_round
        case rel => exact ⟨k + 1, _, _, _, _, by omega, rfl, rfl, rfl, rfl, by go_num, by simpa using HN⟩
        case measure => simp [intOf]; omega
      · have HN := HB.next hp hq (comb_ft one two both)
        cases two
        all_goals
          go_wp2
          go_round
          case rel => exact ⟨k + 1, _, _, _, _, by omega, rfl, rfl, rfl, rfl, by go_num, by simpa using HN⟩
          case measure => simp [intOf]; omega
      · have HN := HB.next hp hq (comb_tf one two both)
        cases one
        all_goals
          go_wp2
          go_round
          case rel => exact ⟨k + 1, _, _, _, _, by omega, rfl, rfl, rfl, rfl, by go_num, by simpa using HN⟩
          case measure => simp [intOf]; omega
      · have HN := HB.next hp hq (comb_tt one two both)
        cases both
        all_goals
          go_wp2
          go_round
          case rel => exact ⟨k + 1, _, _, _, _, by omega, rfl, rfl, rfl, rfl, by go_num, by simpa using HN⟩
          case measure => simp [intOf]; omega
    · obtain rfl : k = 4 := by omega
      have hs := HB.s
      clear HB
      subst hs
      go_wp2_with (go_at_call 14; refine (rwrap_any _ _).mono ?_; rintro e w' ⟨rfl, rfl⟩)
      go_ret
      exact ⟨rfl, rfl⟩

def dbl (a : Int) : Nat → Int
  | 0 => a
  | i + 1 => wWrap (dbl a i + dbl a i)
def hlv (a : Int) : Nat → Int
  | 0 => a
  | i + 1 => hlv a i / 2
theorem dbl_bd (a : Int) (h : -8 ≤ a ∧ a ≤ 7) : ∀ i, -8 ≤ dbl a i ∧ dbl a i ≤ 7
  | 0 => h
  | _ + 1 => wWrap_bd _
theorem hlv_bd (a : Int) (h : -8 ≤ a ∧ a ≤ 7) : ∀ i, -8 ≤ hlv a i ∧ hlv a i ≤ 7
  | 0 => h
  | i + 1 => by have := hlv_bd a h i; simp only [hlv]; omega
theorem rdoubled_any (a : Int) (t : Nat) (w : World) (ha : -8 ≤ a ∧ a ≤ 7) (ht : t ≤ 3) :
    Calls Tryd.prog 22 #[.int .i64 a, .int .i64 t] w fun e w' => e = .returned (.int .i64 (dbl a t)) ∧ w = w' := by
  go_enter Tryd.func22, Tryd.ntmps22
  go_wp2
  go_loop [0, 5] (fun x i => ∃ k : Nat, k ≤ t ∧ i = .int .i64 k ∧ x = .int .i64 (dbl a k)) (fun _ i => 4 - (intOf i).toNat)
  case atStart => exact ⟨0, by omega, rfl, rfl⟩
  case round =>
    obtain ⟨k, hk, rfl, rfl⟩ := hrel
    have hb := dbl_bd a ha k
    by_cases hlt : k < t
    · go_wp2_with (go_at_call 14; refine (rwrap_any _ _).mono ?_; rintro e w' ⟨rfl, rfl⟩)
      go_round
      case rel => exact ⟨k + 1, by omega, by go_num, rfl⟩
      case measure => simp [intOf]; omega
    · obtain rfl : k = t := by omega
      go_wp2
      go_ret
      exact ⟨rfl, rfl⟩
theorem rhalved_any (a : Int) (t : Nat) (w : World) (ha : -8 ≤ a ∧ a ≤ 7) (ht : t ≤ 3) :
    Calls Tryd.prog 23 #[.int .i64 a, .int .i64 t] w fun e w' => e = .returned (.int .i64 (hlv a t)) ∧ w = w' := by
  go_enter Tryd.func23, Tryd.ntmps23
  go_wp2
  go_loop [0, 5] (fun x i => ∃ k : Nat, k ≤ t ∧ i = .int .i64 k ∧ x = .int .i64 (hlv a k)) (fun _ i => 4 - (intOf i).toNat)
  case atStart => exact ⟨0, by omega, rfl, rfl⟩
  case round =>
    obtain ⟨k, hk, rfl, rfl⟩ := hrel
    have hb := hlv_bd a ha k
    by_cases hlt : k < t
    · by_cases hn : hlv a k < 0
      · go_wp2
        go_round
        case rel => exact ⟨k + 1, by omega, by go_num, congrArg (Value.int .i64) (by simp only [hlv]; omega)⟩
        case measure => simp [intOf]; omega
      · go_wp2
        go_round
        case rel => exact ⟨k + 1, by omega, by go_num, congrArg (Value.int .i64) (by simp only [hlv])⟩
        case measure => simp [intOf]; omega
    · obtain rfl : k = t := by omega
      go_wp2
      go_ret
      exact ⟨rfl, rfl⟩

/-! What the reference reckons is what the operations are. -/
theorem fin_bits (a b : Int) : wWrap (bsum false false true (wWrap a % 16) (wWrap b % 16) 4) = opR 5 a b ∧ wWrap (bsum true true true (wWrap a % 16) (wWrap b % 16) 4) = opR 6 a b ∧ wWrap (bsum true true false (wWrap a % 16) (wWrap b % 16) 4) = opR 7 a b := by
  have h := all2 (p := fun a b => wWrap (bsum false false true (a % 16) (b % 16) 4) == opR 5 a b && wWrap (bsum true true true (a % 16) (b % 16) 4) == opR 6 a b && wWrap (bsum true true false (a % 16) (b % 16) 4) == opR 7 a b) (by decide +kernel) a b
  simp only [Bool.and_eq_true, beq_iff_eq, opR_wrap] at h
  exact ⟨h.1.1, h.1.2, h.2⟩
theorem fin_shift (a b : Int) : dbl (wWrap a) (b % 4).toNat = opR 8 a b ∧ hlv (wWrap a) (b % 4).toNat = opR 9 a b := by
  have h := all2 (p := fun a b => dbl a (b % 4).toNat == opR 8 a b && hlv a (b % 4).toNat == opR 9 a b) (by decide +kernel) a b
  simp only [Bool.and_eq_true, beq_iff_eq, opR_wrap, emod_wWrap] at h
  exact h
theorem fin_arith (a b : Int) : wWrap (wWrap a + wWrap b) = opR 0 a b ∧ wWrap (wWrap a - wWrap b) = opR 1 a b ∧ wWrap (wrap64 (wWrap a * wWrap b)) = opR 2 a b := by
  have h := all2 (p := fun a b => wWrap (a + b) == opR 0 a b && wWrap (a - b) == opR 1 a b && wWrap (wrap64 (a * b)) == opR 2 a b) (by decide +kernel) a b
  simp only [Bool.and_eq_true, beq_iff_eq, opR_wrap] at h
  exact ⟨h.1.1, h.1.2, h.2⟩
theorem fin_div (a b : Int) (hb : ¬ wWrap b = 0) : wWrap ((wWrap a).tdiv (wWrap b)) = opR 3 a b ∧ wWrap (wrap64 (wWrap a - wrap64 (wWrap b * (wWrap a).tdiv (wWrap b)))) = opR 4 a b := by
  have h := all2 (p := fun a b => b == 0 || (wWrap (a.tdiv b) == opR 3 a b && wWrap (wrap64 (a - wrap64 (b * a.tdiv b))) == opR 4 a b)) (by decide +kernel) a b
  have hb' : (wWrap b == 0) = false := by simpa using hb
  simp only [hb', Bool.false_or, Bool.and_eq_true, beq_iff_eq, opR_wrap] at h
  exact h
theorem fin_cmp (a b : Int) : (if wWrap a < wWrap b then (1 : Int) else 0) = opR 10 a b ∧ (if wWrap a = wWrap b then (1 : Int) else 0) = opR 11 a b := by
  have h := all2 (p := fun a b => (if a < b then (1 : Int) else 0) == opR 10 a b && (if a = b then (1 : Int) else 0) == opR 11 a b) (by decide +kernel) a b
  simp only [Bool.and_eq_true, beq_iff_eq, opR_wrap] at h
  exact h
theorem fin_log (a b : Int) : (if wWrap a = 0 ∨ wWrap b = 0 then (0 : Int) else 1) = opR 12 a b ∧ (if wWrap a = 0 ∧ wWrap b = 0 then (0 : Int) else 1) = opR 13 a b := by
  have h := all2 (p := fun a b => (if a = 0 ∨ b = 0 then (0 : Int) else 1) == opR 12 a b && (if a = 0 ∧ b = 0 then (0 : Int) else 1) == opR 13 a b) (by decide +kernel) a b
  simp only [Bool.and_eq_true, beq_iff_eq, opR_wrap] at h
  exact h

theorem rdoubled_int (a t : Int) (w : World) (ha : -8 ≤ a ∧ a ≤ 7) (ht : 0 ≤ t ∧ t ≤ 3) :
    Calls Tryd.prog 22 #[.int .i64 a, .int .i64 t] w fun e w' => e = .returned (.int .i64 (dbl a t.toNat)) ∧ w = w' := by
  obtain ⟨n, rfl⟩ := Int.eq_ofNat_of_zero_le ht.1
  exact rdoubled_any a n w ha (by omega)
theorem rhalved_int (a t : Int) (w : World) (ha : -8 ≤ a ∧ a ≤ 7) (ht : 0 ≤ t ∧ t ≤ 3) :
    Calls Tryd.prog 23 #[.int .i64 a, .int .i64 t] w fun e w' => e = .returned (.int .i64 (hlv a t.toNat)) ∧ w = w' := by
  obtain ⟨n, rfl⟩ := Int.eq_ofNat_of_zero_le ht.1
  exact rhalved_any a n w ha (by omega)
theorem opC_plain {k : Int} (h : ¬ (k = 3 ∨ k = 4)) (a b : Int) : opC k a b = 0 := by unfold opC; rw [if_neg (fun hh => h hh.1)]
theorem opC_div {k : Int} {b : Int} (h : ¬ wWrap b = 0) (a : Int) : opC k a b = 0 := by unfold opC; rw [if_neg (fun hh => h hh.2)]
theorem rop_0 (a b : Int) (w : World) :
    Calls Tryd.prog 18 #[.int .i64 0, .int .i64 a, .int .i64 b] w fun e w' => e = .returned (.tuple #[.int .i64 (opR 0 a b), .int .i64 (opC 0 a b)]) ∧ w = w' := by
  have ha := wWrap_bd a
  have hb := wWrap_bd b
  rw [(opC_plain (by decide) a b), ← (fin_arith a b).1]
  go_enter Tryd.func18, Tryd.ntmps18
  go_wp2_with (first | (go_at_call 14; refine (rwrap_any _ _).mono ?_; rintro e w' ⟨rfl, rfl⟩))
  all_goals
    go_ret2
    exact ⟨rfl, rfl⟩
theorem rop_1 (a b : Int) (w : World) :
    Calls Tryd.prog 18 #[.int .i64 1, .int .i64 a, .int .i64 b] w fun e w' => e = .returned (.tuple #[.int .i64 (opR 1 a b), .int .i64 (opC 1 a b)]) ∧ w = w' := by
  have ha := wWrap_bd a
  have hb := wWrap_bd b
  rw [(opC_plain (by decide) a b), ← (fin_arith a b).2.1]
  go_enter Tryd.func18, Tryd.ntmps18
  go_wp2_with (first | (go_at_call 14; refine (rwrap_any _ _).mono ?_; rintro e w' ⟨rfl, rfl⟩))
  all_goals
    go_ret2
    exact ⟨rfl, rfl⟩
theorem rop_2 (a b : Int) (w : World) :
    Calls Tryd.prog 18 #[.int .i64 2, .int .i64 a, .int .i64 b] w fun e w' => e = .returned (.tuple #[.int .i64 (opR 2 a b), .int .i64 (opC 2 a b)]) ∧ w = w' := by
  have ha := wWrap_bd a
  have hb := wWrap_bd b
  rw [(opC_plain (by decide) a b), ← (fin_arith a b).2.2]
  go_enter Tryd.func18, Tryd.ntmps18
  go_wp2_with (first | (go_at_call 14; refine (rwrap_any _ _).mono ?_; rintro e w' ⟨rfl, rfl⟩))
  all_goals
    go_ret2
    exact ⟨rfl, rfl⟩
theorem rop_3 (a b : Int) (w : World) (hz : ¬ wWrap b = 0) :
    Calls Tryd.prog 18 #[.int .i64 3, .int .i64 a, .int .i64 b] w fun e w' => e = .returned (.tuple #[.int .i64 (opR 3 a b), .int .i64 (opC 3 a b)]) ∧ w = w' := by
  have ha := wWrap_bd a
  have hb := wWrap_bd b
  rw [(opC_div hz a), ← (fin_div a b hz).1]
  go_enter Tryd.func18, Tryd.ntmps18
  go_wp2_with (first | (go_at_call 14; refine (rwrap_any _ _).mono ?_; rintro e w' ⟨rfl, rfl⟩) | (go_at_call 20; refine (rquo_any _ _ _ ha hb hz).mono ?_; rintro e w' ⟨rfl, rfl⟩))
  all_goals
    go_ret2
    exact ⟨rfl, rfl⟩
theorem rop_4 (a b : Int) (w : World) (hz : ¬ wWrap b = 0) :
    Calls Tryd.prog 18 #[.int .i64 4, .int .i64 a, .int .i64 b] w fun e w' => e = .returned (.tuple #[.int .i64 (opR 4 a b), .int .i64 (opC 4 a b)]) ∧ w = w' := by
  have ha := wWrap_bd a
  have hb := wWrap_bd b
  rw [(opC_div hz a), ← (fin_div a b hz).2]
  go_enter Tryd.func18, Tryd.ntmps18
  go_wp2_with (first | (go_at_call 14; refine (rwrap_any _ _).mono ?_; rintro e w' ⟨rfl, rfl⟩) | (go_at_call 20; refine (rquo_any _ _ _ ha hb hz).mono ?_; rintro e w' ⟨rfl, rfl⟩))
  all_goals
    go_ret2
    exact ⟨rfl, rfl⟩
theorem rop_5 (a b : Int) (w : World) :
    Calls Tryd.prog 18 #[.int .i64 5, .int .i64 a, .int .i64 b] w fun e w' => e = .returned (.tuple #[.int .i64 (opR 5 a b), .int .i64 (opC 5 a b)]) ∧ w = w' := by
  have ha := wWrap_bd a
  have hb := wWrap_bd b
  rw [(opC_plain (by decide) a b), ← (fin_bits a b).1]
  go_enter Tryd.func18, Tryd.ntmps18
  go_wp2_with (first | (go_at_call 14; refine (rwrap_any _ _).mono ?_; rintro e w' ⟨rfl, rfl⟩) | (go_at_call 21; refine (rbitwise_any _ _ _ _ _ _).mono ?_; rintro e w' ⟨rfl, rfl⟩))
  all_goals
    go_ret2
    exact ⟨rfl, rfl⟩
theorem rop_6 (a b : Int) (w : World) :
    Calls Tryd.prog 18 #[.int .i64 6, .int .i64 a, .int .i64 b] w fun e w' => e = .returned (.tuple #[.int .i64 (opR 6 a b), .int .i64 (opC 6 a b)]) ∧ w = w' := by
  have ha := wWrap_bd a
  have hb := wWrap_bd b
  rw [(opC_plain (by decide) a b), ← (fin_bits a b).2.1]
  go_enter Tryd.func18, Tryd.ntmps18
  go_wp2_with (first | (go_at_call 14; refine (rwrap_any _ _).mono ?_; rintro e w' ⟨rfl, rfl⟩) | (go_at_call 21; refine (rbitwise_any _ _ _ _ _ _).mono ?_; rintro e w' ⟨rfl, rfl⟩))
  all_goals
    go_ret2
    exact ⟨rfl, rfl⟩
theorem rop_7 (a b : Int) (w : World) :
    Calls Tryd.prog 18 #[.int .i64 7, .int .i64 a, .int .i64 b] w fun e w' => e = .returned (.tuple #[.int .i64 (opR 7 a b), .int .i64 (opC 7 a b)]) ∧ w = w' := by
  have ha := wWrap_bd a
  have hb := wWrap_bd b
  rw [(opC_plain (by decide) a b), ← (fin_bits a b).2.2]
  go_enter Tryd.func18, Tryd.ntmps18
  go_wp2_with (first | (go_at_call 14; refine (rwrap_any _ _).mono ?_; rintro e w' ⟨rfl, rfl⟩) | (go_at_call 21; refine (rbitwise_any _ _ _ _ _ _).mono ?_; rintro e w' ⟨rfl, rfl⟩))
  all_goals
    go_ret2
    exact ⟨rfl, rfl⟩
theorem rop_8 (a b : Int) (w : World) :
    Calls Tryd.prog 18 #[.int .i64 8, .int .i64 a, .int .i64 b] w fun e w' => e = .returned (.tuple #[.int .i64 (opR 8 a b), .int .i64 (opC 8 a b)]) ∧ w = w' := by
  have ha := wWrap_bd a
  have hb := wWrap_bd b
  rw [(opC_plain (by decide) a b), ← (fin_shift a b).1]
  have hm := emod_wWrap b
  go_enter Tryd.func18, Tryd.ntmps18
  go_wp2_with (first | (go_at_call 14; refine (rwrap_any _ _).mono ?_; rintro e w' ⟨rfl, rfl⟩) | (go_at_call 15; refine (rbits_any _ _).mono ?_; rintro e w' ⟨rfl, rfl⟩) | (go_at_call 22; refine (rdoubled_int _ _ _ ha (by omega)).mono ?_; rintro e w' ⟨rfl, rfl⟩))
  all_goals
    go_ret2
    exact ⟨rfl, rfl⟩
theorem rop_9 (a b : Int) (w : World) :
    Calls Tryd.prog 18 #[.int .i64 9, .int .i64 a, .int .i64 b] w fun e w' => e = .returned (.tuple #[.int .i64 (opR 9 a b), .int .i64 (opC 9 a b)]) ∧ w = w' := by
  have ha := wWrap_bd a
  have hb := wWrap_bd b
  rw [(opC_plain (by decide) a b), ← (fin_shift a b).2]
  have hm := emod_wWrap b
  go_enter Tryd.func18, Tryd.ntmps18
  go_wp2_with (first | (go_at_call 14; refine (rwrap_any _ _).mono ?_; rintro e w' ⟨rfl, rfl⟩) | (go_at_call 15; refine (rbits_any _ _).mono ?_; rintro e w' ⟨rfl, rfl⟩) | (go_at_call 23; refine (rhalved_int _ _ _ ha (by omega)).mono ?_; rintro e w' ⟨rfl, rfl⟩))
  all_goals
    go_ret2
    exact ⟨rfl, rfl⟩
theorem rop_10 (a b : Int) (w : World) :
    Calls Tryd.prog 18 #[.int .i64 10, .int .i64 a, .int .i64 b] w fun e w' => e = .returned (.tuple #[.int .i64 (opR 10 a b), .int .i64 (opC 10 a b)]) ∧ w = w' := by
  rw [opC_plain (by decide) a b, ← (fin_cmp a b).1]
  by_cases h : wWrap a < wWrap b
  · rw [if_pos h]
    go_enter Tryd.func18, Tryd.ntmps18
    go_wp2_with (first | (go_at_call 14; refine (rwrap_any _ _).mono ?_; rintro e w' ⟨rfl, rfl⟩) | (go_at_call 24; refine (rnumber_any _ _).mono ?_; rintro e w' ⟨rfl, rfl⟩))
    go_ret2
    exact ⟨rfl, rfl⟩
  · rw [if_neg h]
    go_enter Tryd.func18, Tryd.ntmps18
    go_wp2_with (first | (go_at_call 14; refine (rwrap_any _ _).mono ?_; rintro e w' ⟨rfl, rfl⟩) | (go_at_call 24; refine (rnumber_any _ _).mono ?_; rintro e w' ⟨rfl, rfl⟩))
    go_ret2
    exact ⟨rfl, rfl⟩
theorem rop_11 (a b : Int) (w : World) :
    Calls Tryd.prog 18 #[.int .i64 11, .int .i64 a, .int .i64 b] w fun e w' => e = .returned (.tuple #[.int .i64 (opR 11 a b), .int .i64 (opC 11 a b)]) ∧ w = w' := by
  rw [opC_plain (by decide) a b, ← (fin_cmp a b).2]
  by_cases h : wWrap a = wWrap b
  · rw [if_pos h]
    go_enter Tryd.func18, Tryd.ntmps18
    go_wp2_with (first | (go_at_call 14; refine (rwrap_any _ _).mono ?_; rintro e w' ⟨rfl, rfl⟩) | (go_at_call 24; refine (rnumber_any _ _).mono ?_; rintro e w' ⟨rfl, rfl⟩))
    go_ret2
    exact ⟨rfl, rfl⟩
  · rw [if_neg h]
    go_enter Tryd.func18, Tryd.ntmps18
    go_wp2_with (first | (go_at_call 14; refine (rwrap_any _ _).mono ?_; rintro e w' ⟨rfl, rfl⟩) | (go_at_call 24; refine (rnumber_any _ _).mono ?_; rintro e w' ⟨rfl, rfl⟩))
    go_ret2
    exact ⟨rfl, rfl⟩
theorem rop_12 (a b : Int) (w : World) :
    Calls Tryd.prog 18 #[.int .i64 12, .int .i64 a, .int .i64 b] w fun e w' => e = .returned (.tuple #[.int .i64 (opR 12 a b), .int .i64 (opC 12 a b)]) ∧ w = w' := by
  rw [opC_plain (by decide) a b, ← (fin_log a b).1]
  by_cases h1 : wWrap a = 0
  all_goals by_cases h2 : wWrap b = 0
  · rw [show (if wWrap a = 0 ∨ wWrap b = 0 then (0 : Int) else 1) = 0 from by simp [h1, h2]]
    go_enter Tryd.func18, Tryd.ntmps18
    go_wp2_with (first | (go_at_call 14; refine (rwrap_any _ _).mono ?_; rintro e w' ⟨rfl, rfl⟩) | (go_at_call 24; refine (rnumber_any _ _).mono ?_; rintro e w' ⟨rfl, rfl⟩))
    go_ret2
    exact ⟨rfl, rfl⟩
  · rw [show (if wWrap a = 0 ∨ wWrap b = 0 then (0 : Int) else 1) = 0 from by simp [h1, h2]]
    go_enter Tryd.func18, Tryd.ntmps18
    go_wp2_with (first | (go_at_call 14; refine (rwrap_any _ _).mono ?_; rintro e w' ⟨rfl, rfl⟩) | (go_at_call 24; refine (rnumber_any _ _).mono ?_; rintro e w' ⟨rfl, rfl⟩))
    go_ret2
    exact ⟨rfl, rfl⟩
  · rw [show (if wWrap a = 0 ∨ wWrap b = 0 then (0 : Int) else 1) = 0 from by simp [h1, h2]]
    go_enter Tryd.func18, Tryd.ntmps18
    go_wp2_with (first | (go_at_call 14; refine (rwrap_any _ _).mono ?_; rintro e w' ⟨rfl, rfl⟩) | (go_at_call 24; refine (rnumber_any _ _).mono ?_; rintro e w' ⟨rfl, rfl⟩))
    go_ret2
    exact ⟨rfl, rfl⟩
  · rw [show (if wWrap a = 0 ∨ wWrap b = 0 then (0 : Int) else 1) = 1 from by simp [h1, h2]]
    go_enter Tryd.func18, Tryd.ntmps18
    go_wp2_with (first | (go_at_call 14; refine (rwrap_any _ _).mono ?_; rintro e w' ⟨rfl, rfl⟩) | (go_at_call 24; refine (rnumber_any _ _).mono ?_; rintro e w' ⟨rfl, rfl⟩))
    go_ret2
    exact ⟨rfl, rfl⟩
theorem rop_13 (a b : Int) (w : World) :
    Calls Tryd.prog 18 #[.int .i64 13, .int .i64 a, .int .i64 b] w fun e w' => e = .returned (.tuple #[.int .i64 (opR 13 a b), .int .i64 (opC 13 a b)]) ∧ w = w' := by
  rw [opC_plain (by decide) a b, ← (fin_log a b).2]
  by_cases h1 : wWrap a = 0
  all_goals by_cases h2 : wWrap b = 0
  · rw [show (if wWrap a = 0 ∧ wWrap b = 0 then (0 : Int) else 1) = 0 from by simp [h1, h2]]
    go_enter Tryd.func18, Tryd.ntmps18
    go_wp2_with (first | (go_at_call 14; refine (rwrap_any _ _).mono ?_; rintro e w' ⟨rfl, rfl⟩) | (go_at_call 24; refine (rnumber_any _ _).mono ?_; rintro e w' ⟨rfl, rfl⟩))
    go_ret2
    exact ⟨rfl, rfl⟩
  · rw [show (if wWrap a = 0 ∧ wWrap b = 0 then (0 : Int) else 1) = 1 from by simp [h1, h2]]
    go_enter Tryd.func18, Tryd.ntmps18
    go_wp2_with (first | (go_at_call 14; refine (rwrap_any _ _).mono ?_; rintro e w' ⟨rfl, rfl⟩) | (go_at_call 24; refine (rnumber_any _ _).mono ?_; rintro e w' ⟨rfl, rfl⟩))
    go_ret2
    exact ⟨rfl, rfl⟩
  · rw [show (if wWrap a = 0 ∧ wWrap b = 0 then (0 : Int) else 1) = 1 from by simp [h1, h2]]
    go_enter Tryd.func18, Tryd.ntmps18
    go_wp2_with (first | (go_at_call 14; refine (rwrap_any _ _).mono ?_; rintro e w' ⟨rfl, rfl⟩) | (go_at_call 24; refine (rnumber_any _ _).mono ?_; rintro e w' ⟨rfl, rfl⟩))
    go_ret2
    exact ⟨rfl, rfl⟩
  · rw [show (if wWrap a = 0 ∧ wWrap b = 0 then (0 : Int) else 1) = 1 from by simp [h1, h2]]
    go_enter Tryd.func18, Tryd.ntmps18
    go_wp2_with (first | (go_at_call 14; refine (rwrap_any _ _).mono ?_; rintro e w' ⟨rfl, rfl⟩) | (go_at_call 24; refine (rnumber_any _ _).mono ?_; rintro e w' ⟨rfl, rfl⟩))
    go_ret2
    exact ⟨rfl, rfl⟩
theorem rop_zero (k a b : Int) (w : World) (hk : k = 3 ∨ k = 4) (hz : wWrap b = 0) :
    Calls Tryd.prog 18 #[.int .i64 k, .int .i64 a, .int .i64 b] w fun e w' => e = .returned (.tuple #[.int .i64 (opR k a b), .int .i64 (opC k a b)]) ∧ w = w' := by
  have e1 : opR k a b = 0 := by unfold opR; rw [if_neg (by omega), if_pos ⟨hk, hz⟩]
  have e2 : opC k a b = 2 := by unfold opC; rw [if_pos ⟨hk, hz⟩]
  rw [e1, e2]
  clear e1 e2
  rcases hk with rfl | rfl
  all_goals
    go_enter Tryd.func18, Tryd.ntmps18
    go_wp2_with (go_at_call 14; refine (rwrap_any _ _).mono ?_; rintro e w' ⟨rfl, rfl⟩)
    go_ret2
    exact ⟨rfl, rfl⟩
theorem rop_none (op a b : Int) (w : World) (h : op < 0 ∨ 14 ≤ op) :
    Calls Tryd.prog 18 #[.int .i64 op, .int .i64 a, .int .i64 b] w fun e w' => e = .returned (.tuple #[.int .i64 (opR op a b), .int .i64 (opC op a b)]) ∧ w = w' := by
  rw [opR_out h, opC_out h]
  rcases h with h | h
  all_goals
    go_enter Tryd.func18, Tryd.ntmps18
    go_wp2_with (go_at_call 14; refine (rwrap_any _ _).mono ?_; rintro e w' ⟨rfl, rfl⟩)
    go_ret2
    exact ⟨rfl, rfl⟩
theorem rop_any (op a b : Int) (w : World) :
    Calls Tryd.prog 18 #[.int .i64 op, .int .i64 a, .int .i64 b] w fun e w' => e = .returned (.tuple #[.int .i64 (opR op a b), .int .i64 (opC op a b)]) ∧ w = w' := by
  rcases (show (op < 0 ∨ 14 ≤ op) ∨ op = 0 ∨ op = 1 ∨ op = 2 ∨ op = 3 ∨ op = 4 ∨ op = 5 ∨ op = 6 ∨ op = 7 ∨ op = 8 ∨ op = 9 ∨ op = 10 ∨ op = 11 ∨ op = 12 ∨ op = 13 from by omega) with h | rfl | rfl | rfl | rfl | rfl | rfl | rfl | rfl | rfl | rfl | rfl | rfl | rfl | rfl
  · exact rop_none op a b w h
  · exact rop_0 a b w
  · exact rop_1 a b w
  · exact rop_2 a b w
  · by_cases hz : wWrap b = 0
    · exact rop_zero 3 a b w (.inl rfl) hz
    · exact rop_3 a b w hz
  · by_cases hz : wWrap b = 0
    · exact rop_zero 4 a b w (.inr rfl) hz
    · exact rop_4 a b w hz
  · exact rop_5 a b w
  · exact rop_6 a b w
  · exact rop_7 a b w
  · exact rop_8 a b w
  · exact rop_9 a b w
  · exact rop_10 a b w
  · exact rop_11 a b w
  · exact rop_12 a b w
  · exact rop_13 a b w
end Go.Proofs.YtdpabdlbohdkjaaDoor
