/-
  The library's sort at uint, of at most twelve elements, and what stands on it, on plain data. No condition of its own. Leaving out what stands next to its like: plain facts. No condition of its own. slices.Compact, slices.Values, slices.Sorted at uint, on plain data. No condition of its own. slices.Sorted at uint, of at most twelve elements, on plain data. No condition of its own. slices.Compact at uint in whatever entries, on plain data. No condition of its own. Suite, in plain words: rows, costs, tests; what the reference's functions compute. No condition of its own. Suite's small functions: what they compute. No condition of its own. Suite's reference: Possible. No condition of its own. Suite: small laws of the plain words. No condition of its own. Suite: the drawn rows and costs, in plain words. No condition of its own. What the row's list gives the walks: math/bits' two tables stand in memory. And from the row's arguments to plain data. No condition of its own. Sets of tests as numbers: plain facts. No condition of its own. Suite's reference, more functions: what they compute. No condition of its own. Suite's reference, more functions: what they compute. No condition of its own. Suite's reference: before, Least. No condition of its own. Suite: laws for shows. No condition of its own. Suite's reference: shows at a leaf. No condition of its own. Suite's reference: shows at an inner node. No condition of its own. Suite's reference: shows, Check. No condition of its own. Suite's reference: Check. No condition of its own. The reference's small functions: Around, At, SameInts. No condition of its own. The reference's drawn costs. No condition of its own. The reference's drawn rows. No condition of its own. math/bits on plain data: TrailingZeros. No condition of its own. Package suite: list, price, cheapest, left. No condition of its own. Package suite: OnesCount of small numbers, before. No condition of its own. Package suite: of, least. No condition of its own. Package suite: least. No condition of its own.
-/
import Derived.Test.YtgkhcjdpdgfdbaaDoorB2
import Derived.Test.YtgkhcjdpdgfdbaaDoorB0
import Derived.LaidMore
import Derived.MakeChecks
import Derived.Stop.Joined
import Derived.Lib.TrailingZeros
namespace Go.Proofs.YtgkhcjdpdgfdbaaDoor
open Go Go.RowKit

attribute [local irreducible] EvOps EvC
attribute [local go_sem] List.set_set getS List.getElem_set_self List.length_set List.getElem?_toArray
set_option linter.unusedSimpArgs false
set_option linter.unusedVariables false
set_option maxRecDepth 100000
set_option maxHeartbeats 2000000
theorem len64_ev (n : Nat) (hn : n < 13) (sto : Sto) (lo : Nat) (hlo : lo ≤ sto.length) : ∃ r, CallEv Tryd.prog tab B0 87 [.v (VU n)] sto lo (.v (VI r)) sto := by
  have : n = 0 ∨ n = 1 ∨ n = 2 ∨ n = 3 ∨ n = 4 ∨ n = 5 ∨ n = 6 ∨ n = 7 ∨ n = 8 ∨ n = 9 ∨ n = 10 ∨ n = 11 ∨ n = 12 := by omega
  rcases this with rfl | rfl | rfl | rfl | rfl | rfl | rfl | rfl | rfl | rfl | rfl | rfl | rfl
  all_goals
    apply Exists.intro
    refine CallEv.intro ⟨_, _, [], Tryd.func87, rfl, by decide, ?_⟩; simp only [go_sem, Tryd.ntmps87]
    repeat' (first | (refine go ⟨?_⟩) | (fail) | ((first | (refine bsp ?_ ?_) | (refine csp ?_ ?_)); all_goals (intro hb; (fail_if_success (cases hb; done)); (try simp only [decide_eq_true_eq, decide_eq_false_iff_not, beq_iff_eq, bne_iff_ne, ne_eq, beq_eq_false_iff_ne, bne_eq_false_iff_eq, Bool.not_eq_true', Bool.not_eq_false', Bool.and_eq_true, Bool.or_eq_true, Decidable.not_not] at hb); (try simp only [go_sem]))))
    refine ⟨by first | exact .inr rfl | exact .inl rfl, .inl ⟨[], _, (by dsimp only [Tryd.f87]; exact sv), ?_, by simp⟩⟩
    rfl
theorem len_ev (n : Nat) (hn : n < 13) (sto : Sto) (lo : Nat) (hlo : lo ≤ sto.length) : ∃ r, CallEv Tryd.prog tab B0 75 [.v (VU n)] sto lo (.v (VI r)) sto := by
  obtain ⟨r, hr⟩ := len64_ev n hn sto lo hlo
  refine ⟨r, ?_⟩
  refine CallEv.intro ⟨_, _, [], Tryd.func75, rfl, by decide, ?_⟩; simp only [go_sem, Tryd.ntmps75]
  repeat' (first | (refine go ⟨?_⟩) | (((refine call ?_); (refine ⟨_, hr, ?_⟩); (try simp only [go_sem]))) | ((first | (refine bsp ?_ ?_) | (refine csp ?_ ?_)); all_goals (intro hb; (fail_if_success (cases hb; done)); (try simp only [decide_eq_true_eq, decide_eq_false_iff_not, beq_iff_eq, bne_iff_ne, ne_eq, beq_eq_false_iff_ne, bne_eq_false_iff_eq, Bool.not_eq_true', Bool.not_eq_false', Bool.and_eq_true, Bool.or_eq_true, Decidable.not_not] at hb); (try simp only [go_sem]))))
  refine ⟨by first | exact .inr rfl | exact .inl rfl, .inl ⟨[], _, (by dsimp only [Tryd.f75]; exact sv), ?_, by simp⟩⟩
  rfl
theorem pdqU_ev (xs : List Nat) (l : Int) (id : Nat) (hx : xs.length < 13) (sto : Sto) (lo : Nat) (hlo : lo ≤ sto.length) (hl : lo ≤ id) (hid : id < sto.length) : CallEv Tryd.prog tab B0 74 [.arr id xs.length, .v (VI 0), .v (VI xs.length), .v (VI l)] (sto.set id (.arr (some (67, 1)) true xs.length (xs.map VU))) lo (.v (.tup [])) (sto.set id (.arr (some (67, 1)) true xs.length ((sortN xs).map VU))) := by
  have hi := insertionU_ev xs _ id (by omega) rfl (sto.set id (.arr (some (67, 1)) true xs.length (xs.map VU))) lo (by simpa using hlo) hl (by simpa using hid) (by simp)
  rw [List.set_set] at hi
  refine CallEv.intro ⟨_, _, [], Tryd.func74, rfl, by decide, ?_⟩; simp only [go_sem, Tryd.ntmps74]
  (try refine go ⟨?_⟩)
  refine c_loop (fun m s => m = 0 ∧ (s.env.length = 134 ∧ s.sto = sto.set id (.arr (some (67, 1)) true xs.length (xs.map VU)) ∧ s.env[0]? = some (.arr id xs.length) ∧ s.env[1]? = some (.v (VI 0)) ∧ s.env[2]? = some (.v (VI xs.length)) ∧ s.env[3]? = some (.v (VI l)) ∧ s.env[8]? = some (.v (.bool true)) ∧ s.env[9]? = some (.v (.bool true)))) (.refl _) ⟨rfl, rfl, rfl, ?_, ?_, ?_, ?_, ?_, ?_⟩ ?_
  all_goals first | rfl | skip
  rintro m s ⟨rfl, hL, hT, k0, k1, k2, k3, k8, k9⟩
  obtain ⟨env, st0⟩ := s; obtain ⟨J, hJ⟩ := listJ hL; rw [show (List.range 134).map J = J 0 :: J 1 :: J 2 :: J 3 :: J 4 :: J 5 :: J 6 :: J 7 :: J 8 :: J 9 :: J 10 :: J 11 :: J 12 :: J 13 :: J 14 :: J 15 :: J 16 :: J 17 :: J 18 :: J 19 :: J 20 :: J 21 :: J 22 :: J 23 :: J 24 :: J 25 :: J 26 :: J 27 :: J 28 :: J 29 :: J 30 :: J 31 :: J 32 :: J 33 :: J 34 :: J 35 :: J 36 :: J 37 :: J 38 :: J 39 :: J 40 :: J 41 :: J 42 :: J 43 :: J 44 :: J 45 :: J 46 :: J 47 :: J 48 :: J 49 :: J 50 :: J 51 :: J 52 :: J 53 :: J 54 :: J 55 :: J 56 :: J 57 :: J 58 :: J 59 :: J 60 :: J 61 :: J 62 :: J 63 :: J 64 :: J 65 :: J 66 :: J 67 :: J 68 :: J 69 :: J 70 :: J 71 :: J 72 :: J 73 :: J 74 :: J 75 :: J 76 :: J 77 :: J 78 :: J 79 :: J 80 :: J 81 :: J 82 :: J 83 :: J 84 :: J 85 :: J 86 :: J 87 :: J 88 :: J 89 :: J 90 :: J 91 :: J 92 :: J 93 :: J 94 :: J 95 :: J 96 :: J 97 :: J 98 :: J 99 :: J 100 :: J 101 :: J 102 :: J 103 :: J 104 :: J 105 :: J 106 :: J 107 :: J 108 :: J 109 :: J 110 :: J 111 :: J 112 :: J 113 :: J 114 :: J 115 :: J 116 :: J 117 :: J 118 :: J 119 :: J 120 :: J 121 :: J 122 :: J 123 :: J 124 :: J 125 :: J 126 :: J 127 :: J 128 :: J 129 :: J 130 :: J 131 :: J 132 :: J 133 :: [] from by kernel_rfl] at hJ; replace k0 := Option.some.inj ((congrArg (·[0]?) hJ).symm.trans k0); replace k1 := Option.some.inj ((congrArg (·[1]?) hJ).symm.trans k1); replace k2 := Option.some.inj ((congrArg (·[2]?) hJ).symm.trans k2); replace k3 := Option.some.inj ((congrArg (·[3]?) hJ).symm.trans k3); replace k8 := Option.some.inj ((congrArg (·[8]?) hJ).symm.trans k8); replace k9 := Option.some.inj ((congrArg (·[9]?) hJ).symm.trans k9); rw [k0, k1, k2, k3, k8, k9] at hJ; dsimp only at hJ hT; subst hJ; replace hT := hT.symm; subst hT; clear hL k0 k1 k2 k3 k8 k9
  repeat' (first | (refine go ⟨?_⟩) | (((with_reducible apply ops_callW); rfl; (simp (disch := (first | omega | assumption | ((repeat' with_reducible apply And.intro) <;> first | omega | assumption | rfl | (apply Or.inl; rfl) | (apply Or.inr; first | rfl | trivial | fail) | fail) | fail)) only [go_sem, if_pos, if_neg, wrapI, wrapU, decide_eq_true, decide_eq_false, beqT, beqF, bneT, bneF] <;> rfl); (exact hi); (first | exact ho_arr | exact ho_arr2 | exact ho_map | exact ho_app (by first | omega | (simp; done) | (simp; omega)) | exact ho_app2 (by first | omega | (simp; done) | (simp; omega))); (try simp only [go_sem]))) | ((first | (refine bsp ?_ ?_) | (refine csp ?_ ?_)); all_goals (intro hb; (fail_if_success (cases hb; done)); (try simp only [decide_eq_true_eq, decide_eq_false_iff_not, beq_iff_eq, bne_iff_ne, ne_eq, beq_eq_false_iff_ne, bne_eq_false_iff_eq, Bool.not_eq_true', Bool.not_eq_false', Bool.and_eq_true, Bool.or_eq_true, Decidable.not_not] at hb); (try simp only [go_sem]))))

  refine ⟨by first | exact .inr rfl | exact .inl rfl, .inl ⟨[], _, (by dsimp only [Tryd.f74]; exact sv), ?_, ?_⟩⟩
  · rfl
  · (rw [List.take_of_length_le (by simp)])
theorem sortU_ev (xs : List Nat) (id : Nat) (hx : xs.length < 13) (sto : Sto) (lo : Nat) (hlo : lo ≤ sto.length) (hl : lo ≤ id) (hid : id < sto.length) : CallEv Tryd.prog tab B0 66 [.arr id xs.length] (sto.set id (.arr (some (67, 1)) true xs.length (xs.map VU))) lo (.v (.tup [])) (sto.set id (.arr (some (67, 1)) true xs.length ((sortN xs).map VU))) := by
  obtain ⟨r, hr⟩ := len_ev xs.length hx (sto.set id (.arr (some (67, 1)) true xs.length (xs.map VU))) lo (by simpa using hlo)
  have hi := pdqU_ev xs r id hx sto lo hlo hl hid
  refine CallEv.intro ⟨_, _, [], Tryd.func66, rfl, by decide, ?_⟩; simp only [go_sem, Tryd.ntmps66]
  repeat' (first | (refine go ⟨?_⟩) | (first | ((refine call ?_); (refine ⟨_, hr, ?_⟩); (try simp only [go_sem])) | ((with_reducible apply ops_callW); rfl; (simp (disch := (first | omega | assumption | ((repeat' with_reducible apply And.intro) <;> first | omega | assumption | rfl | (apply Or.inl; rfl) | (apply Or.inr; first | rfl | trivial | fail) | fail) | fail)) only [go_sem, if_pos, if_neg, wrapI, wrapU, decide_eq_true, decide_eq_false, beqT, beqF, bneT, bneF] <;> rfl); (exact hi); (first | exact ho_arr | exact ho_arr2 | exact ho_map | exact ho_app (by first | omega | (simp; done) | (simp; omega)) | exact ho_app2 (by first | omega | (simp; done) | (simp; omega))); (try simp only [go_sem]))) | ((first | (refine bsp ?_ ?_) | (refine csp ?_ ?_)); all_goals (intro hb; (fail_if_success (cases hb; done)); (try simp only [decide_eq_true_eq, decide_eq_false_iff_not, beq_iff_eq, bne_iff_ne, ne_eq, beq_eq_false_iff_ne, bne_eq_false_iff_eq, Bool.not_eq_true', Bool.not_eq_false', Bool.and_eq_true, Bool.or_eq_true, Decidable.not_not] at hb); (try simp only [go_sem]))))

  refine ⟨by first | exact .inr rfl | exact .inl rfl, .inl ⟨[], _, (by dsimp only [Tryd.f66]; exact sv), ?_, ?_⟩⟩
  · rfl
  · (rw [List.take_of_length_le (by simp)])
end Go.Proofs.YtgkhcjdpdgfdbaaDoor
namespace Go.Proofs.YtgkhcjdpdgfdbaaDoor
def dedupA : List Nat → List Nat
  | [] => []
  | [a] => [a]
  | a :: b :: l => if a = b then dedupA (b :: l) else a :: dedupA (b :: l)
theorem dedupA_snoc (b : Nat) : ∀ l : List Nat, dedupA (l ++ [b]) = if l.getLast? = some b then dedupA l else dedupA l ++ [b]
  | [] => by simp [dedupA]
  | [a] => by
    by_cases h : a = b <;> simp [dedupA, h]
  | a :: c :: l => by
    have ih := dedupA_snoc b (c :: l)
    simp only [List.cons_append] at ih ⊢
    rw [dedupA, dedupA, ih]
    have e : (a :: c :: l).getLast? = (c :: l).getLast? := by simp [List.getLast?_cons_cons]
    rw [e]
    by_cases h : a = c
    · simp [h]
    · simp only [h, if_false]
      split <;> simp
theorem dedupA_mem : ∀ (l : List Nat) (r : Nat), r ∈ dedupA l ↔ r ∈ l
  | [], r => by simp [dedupA]
  | [a], r => by simp [dedupA]
  | a :: b :: l, r => by
    have ih := dedupA_mem (b :: l) r
    unfold dedupA
    split
    · rename_i h
      subst h
      rw [ih]; simp
    · simp only [List.mem_cons] at ih ⊢
      rw [ih]
theorem dedupA_id : ∀ (l : List Nat), (∀ i (h : i + 1 < l.length), l[i + 1] ≠ l[i]) → dedupA l = l
  | [], _ => rfl
  | [a], _ => rfl
  | a :: b :: l, h => by
    have h0 := h 0 (by simp)
    simp only [List.getElem_cons_succ, List.getElem_cons_zero] at h0
    unfold dedupA
    rw [if_neg (fun e => h0 e.symm), dedupA_id (b :: l) fun i hi => by
      have := h (i + 1) (by simpa using hi)
      simpa using this]
theorem dedupA_length : ∀ (l : List Nat), (dedupA l).length ≤ l.length
  | [] => by simp [dedupA]
  | [a] => by simp [dedupA]
  | a :: b :: l => by
    have := dedupA_length (b :: l)
    unfold dedupA
    split
    · simp only [List.length_cons] at this ⊢; omega
    · simp only [List.length_cons] at this ⊢; omega
/-- Element by element. -/
theorem dedupA_take {l : List Nat} {i : Nat} (hi : i + 1 < l.length) : dedupA (l.take (i + 2)) = if l[i] = l[i + 1] then dedupA (l.take (i + 1)) else dedupA (l.take (i + 1)) ++ [l[i + 1]] := by
  rw [List.take_succ_eq_append_getElem hi, dedupA_snoc]
  have : (l.take (i + 1)).getLast? = some l[i] := by
    rw [List.take_succ_eq_append_getElem (by omega), List.getLast?_append]; rfl
  rw [this]
  simp
end Go.Proofs.YtgkhcjdpdgfdbaaDoor
namespace Go.Proofs.YtgkhcjdpdgfdbaaDoor
open Go Go.RowKit

attribute [local irreducible] EvOps EvC
theorem lcgo {p q : Prop} (k : Later q) (h : Later q → p := by (intro k; (first | with_reducible (first | refine c_seq ?_ | refine c_block ?_ | refine c_region ?_ | refine c_skip ?_ | refine c_exit ?_ | refine c_ret ?_ | refine then_normal ?_ | refine then_exit ?_ | refine then_ret ?_ | refine block_normal ?_ | refine block_here ?_ | refine block_ret ?_ | refine block_far (by decide) ?_ | refine ops_nil ?_ | refine c_cond_t rfl ?_ | refine c_cond_f rfl ?_) | ((with_reducible apply ops_pure); rfl; (simp (disch := (first | omega | assumption | (simp only [List.length_set, List.length_map]; omega) | ((repeat' with_reducible apply And.intro) <;> first | omega | assumption | rfl | (simp only [List.length_set, List.length_map]; omega) | (apply Or.inl; rfl) | (apply Or.inr; first | rfl | trivial | fail) | fail) | fail)) only [go_sem, if_pos, if_neg, wrapI, wrapU, decide_eq_true, decide_eq_false, beqT, beqF, bneT, bneF] <;> rfl); simp only [go_sem]) | ((with_reducible apply ops_pureF); rfl; (intro _; simp (disch := (first | omega | assumption | (simp only [List.length_set, List.length_map]; omega) | ((repeat' with_reducible apply And.intro) <;> first | omega | assumption | rfl | (simp only [List.length_set, List.length_map]; omega) | (apply Or.inl; rfl) | (apply Or.inr; first | rfl | trivial | fail) | fail) | fail)) only [go_sem, if_pos, if_neg, wrapI, wrapU, decide_eq_true, decide_eq_false, beqT, beqF, bneT, bneF] <;> rfl); simp only [go_sem]) | ((with_reducible apply ops_pureD); kernel_rfl; rfl; (simp (disch := (first | omega | assumption | (simp only [List.length_set, List.length_map]; omega) | ((repeat' with_reducible apply And.intro) <;> first | omega | assumption | rfl | (simp only [List.length_set, List.length_map]; omega) | (apply Or.inl; rfl) | (apply Or.inr; first | rfl | trivial | fail) | fail) | fail)) only [go_sem, if_pos, if_neg, wrapI, wrapU, decide_eq_true, decide_eq_false, beqT, beqF, bneT, bneF] <;> rfl); simp only [go_sem]) | ((with_reducible apply ops_skip); rfl; simp only [go_sem]) | ((with_reducible apply c_regionD); kernel_rfl) | ((with_reducible apply ops_eff); decide; rfl; (simp (disch := (first | omega | assumption | (simp only [List.length_set, List.length_map]; omega) | ((repeat' with_reducible apply And.intro) <;> first | omega | assumption | rfl | (simp only [List.length_set, List.length_map]; omega) | (apply Or.inl; rfl) | (apply Or.inr; first | rfl | trivial | fail) | fail) | fail)) only [go_sem, if_pos, if_neg, wrapI, wrapU, decide_eq_true, decide_eq_false, beqT, beqF, bneT, bneF] <;> rfl); simp only [go_sem])); (repeat (first | with_reducible (first | refine c_seq ?_ | refine c_block ?_ | refine c_region ?_ | refine c_skip ?_ | refine c_exit ?_ | refine c_ret ?_ | refine then_normal ?_ | refine then_exit ?_ | refine then_ret ?_ | refine block_normal ?_ | refine block_here ?_ | refine block_ret ?_ | refine block_far (by decide) ?_ | refine ops_nil ?_ | refine c_cond_t rfl ?_ | refine c_cond_f rfl ?_) | ((with_reducible apply ops_pure); rfl; (simp (disch := (first | omega | assumption | (simp only [List.length_set, List.length_map]; omega) | ((repeat' with_reducible apply And.intro) <;> first | omega | assumption | rfl | (simp only [List.length_set, List.length_map]; omega) | (apply Or.inl; rfl) | (apply Or.inr; first | rfl | trivial | fail) | fail) | fail)) only [go_sem, if_pos, if_neg, wrapI, wrapU, decide_eq_true, decide_eq_false, beqT, beqF, bneT, bneF] <;> rfl); simp only [go_sem]) | ((with_reducible apply ops_pureF); rfl; (intro _; simp (disch := (first | omega | assumption | (simp only [List.length_set, List.length_map]; omega) | ((repeat' with_reducible apply And.intro) <;> first | omega | assumption | rfl | (simp only [List.length_set, List.length_map]; omega) | (apply Or.inl; rfl) | (apply Or.inr; first | rfl | trivial | fail) | fail) | fail)) only [go_sem, if_pos, if_neg, wrapI, wrapU, decide_eq_true, decide_eq_false, beqT, beqF, bneT, bneF] <;> rfl); simp only [go_sem]) | ((with_reducible apply ops_pureD); kernel_rfl; rfl; (simp (disch := (first | omega | assumption | (simp only [List.length_set, List.length_map]; omega) | ((repeat' with_reducible apply And.intro) <;> first | omega | assumption | rfl | (simp only [List.length_set, List.length_map]; omega) | (apply Or.inl; rfl) | (apply Or.inr; first | rfl | trivial | fail) | fail) | fail)) only [go_sem, if_pos, if_neg, wrapI, wrapU, decide_eq_true, decide_eq_false, beqT, beqF, bneT, bneF] <;> rfl); simp only [go_sem]) | ((with_reducible apply ops_skip); rfl; simp only [go_sem]) | ((with_reducible apply c_regionD); kernel_rfl) | ((with_reducible apply ops_eff); decide; rfl; (simp (disch := (first | omega | assumption | (simp only [List.length_set, List.length_map]; omega) | ((repeat' with_reducible apply And.intro) <;> first | omega | assumption | rfl | (simp only [List.length_set, List.length_map]; omega) | (apply Or.inl; rfl) | (apply Or.inr; first | rfl | trivial | fail) | fail) | fail)) only [go_sem, if_pos, if_neg, wrapI, wrapU, decide_eq_true, decide_eq_false, beqT, beqF, bneT, bneF] <;> rfl); simp only [go_sem]))); exact k.get)) : p := h k
theorem lcgoX {p q : Prop} (k : Later q) (h : Later q → p := by (intro k; (first | with_reducible (first | refine c_seq ?_ | refine c_block ?_ | refine c_skip ?_ | refine c_exit ?_ | refine c_ret ?_ | refine then_normal ?_ | refine then_exit ?_ | refine then_ret ?_ | refine block_normal ?_ | refine block_here ?_ | refine block_ret ?_ | refine block_far (by decide) ?_ | refine ops_nil ?_ | refine c_cond_t rfl ?_ | refine c_cond_f rfl ?_) | ((with_reducible apply ops_pure); rfl; (simp (disch := (first | omega | assumption | (simp only [List.length_set, List.length_map]; omega) | ((repeat' with_reducible apply And.intro) <;> first | omega | assumption | rfl | (simp only [List.length_set, List.length_map]; omega) | (apply Or.inl; rfl) | (apply Or.inr; first | rfl | trivial | fail) | fail) | fail)) only [go_sem, if_pos, if_neg, wrapI, wrapU, decide_eq_true, decide_eq_false, beqT, beqF, bneT, bneF] <;> rfl); simp only [go_sem]) | ((with_reducible apply ops_pureF); rfl; (intro _; simp (disch := (first | omega | assumption | (simp only [List.length_set, List.length_map]; omega) | ((repeat' with_reducible apply And.intro) <;> first | omega | assumption | rfl | (simp only [List.length_set, List.length_map]; omega) | (apply Or.inl; rfl) | (apply Or.inr; first | rfl | trivial | fail) | fail) | fail)) only [go_sem, if_pos, if_neg, wrapI, wrapU, decide_eq_true, decide_eq_false, beqT, beqF, bneT, bneF] <;> rfl); simp only [go_sem]) | ((with_reducible apply ops_pureD); kernel_rfl; rfl; (simp (disch := (first | omega | assumption | (simp only [List.length_set, List.length_map]; omega) | ((repeat' with_reducible apply And.intro) <;> first | omega | assumption | rfl | (simp only [List.length_set, List.length_map]; omega) | (apply Or.inl; rfl) | (apply Or.inr; first | rfl | trivial | fail) | fail) | fail)) only [go_sem, if_pos, if_neg, wrapI, wrapU, decide_eq_true, decide_eq_false, beqT, beqF, bneT, bneF] <;> rfl); simp only [go_sem]) | ((with_reducible apply ops_skip); rfl; simp only [go_sem]) | ((with_reducible apply c_regionD); kernel_rfl) | ((with_reducible apply ops_eff); decide; rfl; (simp (disch := (first | omega | assumption | (simp only [List.length_set, List.length_map]; omega) | ((repeat' with_reducible apply And.intro) <;> first | omega | assumption | rfl | (simp only [List.length_set, List.length_map]; omega) | (apply Or.inl; rfl) | (apply Or.inr; first | rfl | trivial | fail) | fail) | fail)) only [go_sem, if_pos, if_neg, wrapI, wrapU, decide_eq_true, decide_eq_false, beqT, beqF, bneT, bneF] <;> rfl); simp only [go_sem])); (repeat (first | with_reducible (first | refine c_seq ?_ | refine c_block ?_ | refine c_skip ?_ | refine c_exit ?_ | refine c_ret ?_ | refine then_normal ?_ | refine then_exit ?_ | refine then_ret ?_ | refine block_normal ?_ | refine block_here ?_ | refine block_ret ?_ | refine block_far (by decide) ?_ | refine ops_nil ?_ | refine c_cond_t rfl ?_ | refine c_cond_f rfl ?_) | ((with_reducible apply ops_pure); rfl; (simp (disch := (first | omega | assumption | (simp only [List.length_set, List.length_map]; omega) | ((repeat' with_reducible apply And.intro) <;> first | omega | assumption | rfl | (simp only [List.length_set, List.length_map]; omega) | (apply Or.inl; rfl) | (apply Or.inr; first | rfl | trivial | fail) | fail) | fail)) only [go_sem, if_pos, if_neg, wrapI, wrapU, decide_eq_true, decide_eq_false, beqT, beqF, bneT, bneF] <;> rfl); simp only [go_sem]) | ((with_reducible apply ops_pureF); rfl; (intro _; simp (disch := (first | omega | assumption | (simp only [List.length_set, List.length_map]; omega) | ((repeat' with_reducible apply And.intro) <;> first | omega | assumption | rfl | (simp only [List.length_set, List.length_map]; omega) | (apply Or.inl; rfl) | (apply Or.inr; first | rfl | trivial | fail) | fail) | fail)) only [go_sem, if_pos, if_neg, wrapI, wrapU, decide_eq_true, decide_eq_false, beqT, beqF, bneT, bneF] <;> rfl); simp only [go_sem]) | ((with_reducible apply ops_pureD); kernel_rfl; rfl; (simp (disch := (first | omega | assumption | (simp only [List.length_set, List.length_map]; omega) | ((repeat' with_reducible apply And.intro) <;> first | omega | assumption | rfl | (simp only [List.length_set, List.length_map]; omega) | (apply Or.inl; rfl) | (apply Or.inr; first | rfl | trivial | fail) | fail) | fail)) only [go_sem, if_pos, if_neg, wrapI, wrapU, decide_eq_true, decide_eq_false, beqT, beqF, bneT, bneF] <;> rfl); simp only [go_sem]) | ((with_reducible apply ops_skip); rfl; simp only [go_sem]) | ((with_reducible apply c_regionD); kernel_rfl) | ((with_reducible apply ops_eff); decide; rfl; (simp (disch := (first | omega | assumption | (simp only [List.length_set, List.length_map]; omega) | ((repeat' with_reducible apply And.intro) <;> first | omega | assumption | rfl | (simp only [List.length_set, List.length_map]; omega) | (apply Or.inl; rfl) | (apply Or.inr; first | rfl | trivial | fail) | fail) | fail)) only [go_sem, if_pos, if_neg, wrapI, wrapU, decide_eq_true, decide_eq_false, beqT, beqF, bneT, bneF] <;> rfl); simp only [go_sem]))); exact k.get)) : p := h k
theorem lcsv {p : Prop} (h : p := by simp (disch := (first | omega | assumption | (simp only [List.length_set, List.length_map]; omega) | ((repeat' with_reducible apply And.intro) <;> first | omega | assumption | rfl | (simp only [List.length_set, List.length_map]; omega) | (apply Or.inl; rfl) | (apply Or.inr; first | rfl | trivial | fail) | fail) | fail)) only [go_sem, if_pos, if_neg, wrapI, wrapU, decide_eq_true, decide_eq_false, beqT, beqF, bneT, bneF] <;> rfl) : p := h
theorem lccall {T : Tab} {X : CallP} {n0 lo : Nat} {wt : List Tmp} {draw : Bool} {ops : Array Oper} {Q : St → Prop} {rest : List Oper} {o : Oper} {env : List D} {sto : Sto} {f : FuncId} {args : List D} (k : ∃ r, X f args sto (if draw then sto.length else lo) r sto ∧ EvOps T X n0 lo wt draw ops Q rest (St.put ⟨env, sto⟩ o.dst r)) (hg : guardD ops o env = some true := by rfl) (h : evCallee (opd env) sto o = some (f, args) := by simp (disch := (first | omega | assumption | (simp only [List.length_set, List.length_map]; omega) | ((repeat' with_reducible apply And.intro) <;> first | omega | assumption | rfl | (simp only [List.length_set, List.length_map]; omega) | (apply Or.inl; rfl) | (apply Or.inr; first | rfl | trivial | fail) | fail) | fail)) only [go_sem, if_pos, if_neg, wrapI, wrapU, decide_eq_true, decide_eq_false, beqT, beqF, bneT, bneF] <;> rfl) : EvOps T X n0 lo wt draw ops Q (o :: rest) ⟨env, sto⟩ := k.elim fun _ k => ops_call hg h k.1 k.2
attribute [local go_sem] predN List.getElem_set_self List.set_set getS mapSet List.getElem_map List.length_set List.getElem?_toArray
set_option linter.unusedSimpArgs false
set_option linter.unusedVariables false
set_option maxRecDepth 100000
set_option maxHeartbeats 8000000
theorem valuesU_ev (xs : List Nat) (sto : Sto) (lo : Nat) (hlo : lo ≤ sto.length) : CallEv Tryd.prog tab B0 54 [.v (SL VU xs)] sto lo (.clo 67 [sto.length]) (sto ++ [.cells [.v (SL VU xs)]]) := by
  refine CallEv.intro ⟨_, _, [], Tryd.func54, rfl, by decide, ?_⟩; simp only [go_sem, Tryd.ntmps54]
  repeat' (first | (refine lcgo ⟨?_⟩) | (fail) | ((first | (refine bsp ?_ ?_) | (refine csp ?_ ?_)); all_goals (intro hb; (fail_if_success (cases hb; done)); (try simp only [decide_eq_true_eq, decide_eq_false_iff_not, beq_iff_eq, bne_iff_ne, ne_eq, beq_eq_false_iff_ne, bne_eq_false_iff_eq, Bool.not_eq_true', Bool.not_eq_false', Bool.and_eq_true, Bool.or_eq_true, Decidable.not_not] at hb); (try simp only [go_sem]))))
  refine ⟨by first | exact .inr rfl | exact .inl rfl, .inr (.inl ⟨_, rfl, ?_, ?_⟩)⟩
  · rfl
  · rfl
/-- What the array holds at the end. -/
def compC (xs : List Nat) : List V := (dedupA xs).map VU ++ List.replicate (xs.length - (dedupA xs).length) (VU 0)
theorem compC_id {xs : List Nat} (h : dedupA xs = xs) : compC xs = xs.map VU := by rw [compC, h, Nat.sub_self]; simp
theorem compactU_ev (xs : List Nat) (id : Nat) (hx : xs.length < 1000000000) (sto : Sto) (lo : Nat) (hlo : lo ≤ sto.length) (hl : lo ≤ id) (hid : id < sto.length) : CallEv Tryd.prog tab B0 52 [.arr id xs.length] (sto.set id (.arr (some (67, 1)) true xs.length (xs.map VU))) lo (.v (SL VU (dedupA xs))) (sto.set id (.arr (some (67, 1)) false xs.length (compC xs))) := by
  by_cases h2 : xs.length < 2
  · have hd : dedupA xs = xs := dedupA_id xs fun i hi => by omega
    rw [compC_id hd, hd]
    refine CallEv.intro ⟨_, _, [], Tryd.func52, rfl, by decide, ?_⟩; simp only [go_sem, Tryd.ntmps52]
    (try refine lcgoX ⟨?_⟩)
    (with_reducible refine c_region ?_)
    (try refine lcgoX ⟨?_⟩)
    (with_reducible refine c_region ?_)
    (try refine lcgoX ⟨?_⟩)
    ((with_reducible refine c_region_share [id] ?_ ?_); (intro h; cases h); simp (disch := (first | omega | assumption | (simp only [List.length_set, List.length_map]; omega) | ((repeat' with_reducible apply And.intro) <;> first | omega | assumption | rfl | (simp only [List.length_set, List.length_map]; omega) | (apply Or.inl; rfl) | (apply Or.inr; first | rfl | trivial | fail) | fail) | fail)) only [go_sem, if_pos, if_neg, wrapI, wrapU, decide_eq_true, decide_eq_false, beqT, beqF, bneT, bneF])
    (try refine lcgoX ⟨?_⟩)
    refine ⟨by first | exact .inr rfl | exact .inl rfl, .inl ⟨[], _, (by dsimp only [Tryd.f52]; exact lcsv), ?_, ?_⟩⟩
    · rfl
    · (rw [List.take_of_length_le (by simp)])
  refine CallEv.intro ⟨_, _, [], Tryd.func52, rfl, by decide, ?_⟩; simp only [go_sem, Tryd.ntmps52]
  repeat' (first | (refine lcgo ⟨?_⟩) | (fail) | ((first | (refine bsp ?_ ?_) | (refine csp ?_ ?_)); all_goals (intro hb; (fail_if_success (cases hb; done)); (try simp only [decide_eq_true_eq, decide_eq_false_iff_not, beq_iff_eq, bne_iff_ne, ne_eq, beq_eq_false_iff_ne, bne_eq_false_iff_eq, Bool.not_eq_true', Bool.not_eq_false', Bool.and_eq_true, Bool.or_eq_true, Decidable.not_not] at hb); (try simp only [go_sem]))))
  refine c_loop (fun m s => ∃ k : Nat, (1 ≤ k ∧ k ≤ xs.length ∧ m = xs.length - k ∧ Hid (∀ i (h : i + 1 < xs.length), i + 1 < k → xs[i + 1] ≠ xs[i])) ∧ (s.env.length = 61 ∧ s.sto = sto.set id (.arr (some (67, 1)) true xs.length (xs.map VU)) ∧ s.env[0]? = some (.arr id xs.length) ∧ s.env[3]? = some (.v (VI k)))) (.refl _) ⟨1, ⟨by omega, by omega, rfl, Lib.hid fun i h1 h2 => by omega⟩, rfl, rfl, ?_, ?_⟩ ?_
  all_goals first | rfl | skip
  rintro m s ⟨k, ⟨h1, h3, rfl, hnd⟩, hL, hT, k0, k3⟩
  obtain ⟨env, st0⟩ := s; obtain ⟨J, hJ⟩ := listJ hL; rw [show (List.range 61).map J = J 0 :: J 1 :: J 2 :: J 3 :: J 4 :: J 5 :: J 6 :: J 7 :: J 8 :: J 9 :: J 10 :: J 11 :: J 12 :: J 13 :: J 14 :: J 15 :: J 16 :: J 17 :: J 18 :: J 19 :: J 20 :: J 21 :: J 22 :: J 23 :: J 24 :: J 25 :: J 26 :: J 27 :: J 28 :: J 29 :: J 30 :: J 31 :: J 32 :: J 33 :: J 34 :: J 35 :: J 36 :: J 37 :: J 38 :: J 39 :: J 40 :: J 41 :: J 42 :: J 43 :: J 44 :: J 45 :: J 46 :: J 47 :: J 48 :: J 49 :: J 50 :: J 51 :: J 52 :: J 53 :: J 54 :: J 55 :: J 56 :: J 57 :: J 58 :: J 59 :: J 60 :: [] from by kernel_rfl] at hJ; replace k0 := Option.some.inj ((congrArg (·[0]?) hJ).symm.trans k0); replace k3 := Option.some.inj ((congrArg (·[3]?) hJ).symm.trans k3); rw [k0, k3] at hJ; dsimp only at hJ hT; subst hJ; replace hT := hT.symm; subst hT; clear hL k0 k3
  by_cases hk : k < xs.length
  · obtain ⟨k, rfl⟩ : ∃ j, k = j + 1 := ⟨k - 1, by omega⟩
    by_cases he : xs[k + 1] = xs[k]
    · have hpre : dedupA (xs.take (k + 2)) = xs.take (k + 1) := by
        rw [dedupA_take hk, if_pos he.symm]
        exact dedupA_id _ fun i hi => by
          simp only [List.length_take] at hi
          simp only [List.getElem_take]
          exact hnd i (by omega) (by omega)
      have hpreh := Lib.hid hpre
      clear hpre hnd
      repeat' (first | (refine lcgo ⟨?_⟩) | (fail) | ((first | (refine bsp ?_ ?_) | (refine csp ?_ ?_)); all_goals (intro hb; (fail_if_success (cases hb; done)); (try simp only [decide_eq_true_eq, decide_eq_false_iff_not, beq_iff_eq, bne_iff_ne, ne_eq, beq_eq_false_iff_ne, bne_eq_false_iff_eq, Bool.not_eq_true', Bool.not_eq_false', Bool.and_eq_true, Bool.or_eq_true, Decidable.not_not] at hb); (try simp only [go_sem]))))
      refine c_loop (fun m s => ∃ (k1 j : Nat) (zs : List Nat), (1 ≤ j ∧ j ≤ xs.length - (k + 1) ∧ 1 ≤ k1 ∧ k1 + 1 ≤ k + 1 + j ∧ m = xs.length - (k + 1) - j ∧ zs.length = xs.length ∧ Hid (zs.take k1 = dedupA (xs.take (k + 1 + j)) ∧ ∀ i, k + j ≤ i → zs[i]? = xs[i]?)) ∧ (s.env.length = 61 ∧ s.sto = sto.set id (.arr (some (67, 1)) true xs.length (zs.map VU)) ∧ s.env[0]? = some (.arr id xs.length) ∧ s.env[3]? = some (.v (VI k1)) ∧ s.env[4]? = some (.win id xs.length (k + 1) (xs.length - (k + 1))) ∧ s.env[5]? = some (.v (VI j)))) (.refl _) ⟨k + 1, 1, xs, ⟨by omega, by omega, by omega, by omega, rfl, rfl, Lib.hid ⟨hpreh.symm, fun _ _ => rfl⟩⟩, rfl, rfl, ?_, ?_, ?_, ?_⟩ ?_
      all_goals first | rfl | skip
      rintro m s ⟨k1, j, zs, ⟨h4, h5, h6, h6', rfl, h7, h8⟩, hL, hT, k0, k3, k4, k5⟩
      obtain ⟨env, st0⟩ := s; obtain ⟨J, hJ⟩ := listJ hL; rw [show (List.range 61).map J = J 0 :: J 1 :: J 2 :: J 3 :: J 4 :: J 5 :: J 6 :: J 7 :: J 8 :: J 9 :: J 10 :: J 11 :: J 12 :: J 13 :: J 14 :: J 15 :: J 16 :: J 17 :: J 18 :: J 19 :: J 20 :: J 21 :: J 22 :: J 23 :: J 24 :: J 25 :: J 26 :: J 27 :: J 28 :: J 29 :: J 30 :: J 31 :: J 32 :: J 33 :: J 34 :: J 35 :: J 36 :: J 37 :: J 38 :: J 39 :: J 40 :: J 41 :: J 42 :: J 43 :: J 44 :: J 45 :: J 46 :: J 47 :: J 48 :: J 49 :: J 50 :: J 51 :: J 52 :: J 53 :: J 54 :: J 55 :: J 56 :: J 57 :: J 58 :: J 59 :: J 60 :: [] from by kernel_rfl] at hJ; replace k0 := Option.some.inj ((congrArg (·[0]?) hJ).symm.trans k0); replace k3 := Option.some.inj ((congrArg (·[3]?) hJ).symm.trans k3); replace k4 := Option.some.inj ((congrArg (·[4]?) hJ).symm.trans k4); replace k5 := Option.some.inj ((congrArg (·[5]?) hJ).symm.trans k5); rw [k0, k3, k4, k5] at hJ; dsimp only at hJ hT; subst hJ; replace hT := hT.symm; subst hT; clear hL k0 k3 k4 k5
      by_cases hj : j < xs.length - (k + 1)
      · obtain ⟨j, rfl⟩ : ∃ i, j = i + 1 := ⟨j - 1, by omega⟩
        obtain ⟨hA, hB⟩ := h8
        have e1 : zs[k + 1 + (j + 1)] = xs[k + 1 + (j + 1)] := by
          have := hB (k + 1 + (j + 1)) (by omega)
          rw [List.getElem?_eq_getElem (by omega), List.getElem?_eq_getElem (by omega)] at this
          exact Option.some.inj this
        have e2 : zs[k + 1 + j] = xs[k + 1 + j] := by
          have := hB (k + 1 + j) (by omega)
          rw [List.getElem?_eq_getElem (by omega), List.getElem?_eq_getElem (by omega)] at this
          exact Option.some.inj this
        have hstep : dedupA (xs.take (k + 1 + (j + 1) + 1)) = if xs[k + 1 + j] = xs[k + 1 + j + 1] then dedupA (xs.take (k + 1 + (j + 1))) else dedupA (xs.take (k + 1 + (j + 1))) ++ [xs[k + 1 + j + 1]] :=
          dedupA_take (l := xs) (i := k + 1 + j) (by omega)
        have hQ := Lib.hid (And.intro hA (And.intro hB (And.intro e1 (And.intro e2 hstep))))
        clear hA hB e1 e2 hstep
        repeat' (first | (refine lcgo ⟨?_⟩) | (fail) | ((first | (refine bsp ?_ ?_) | (refine csp ?_ ?_)); all_goals (intro hb; (fail_if_success (cases hb; done)); (try simp only [decide_eq_true_eq, decide_eq_false_iff_not, beq_iff_eq, bne_iff_ne, ne_eq, beq_eq_false_iff_ne, bne_eq_false_iff_eq, Bool.not_eq_true', Bool.not_eq_false', Bool.and_eq_true, Bool.or_eq_true, Decidable.not_not] at hb); (try simp only [go_sem]))))
        · obtain ⟨hA, hB, e1, e2, hstep⟩ := hQ
          refine ⟨_, _, ?_, .refl _, k1 + 1, j + 1 + 1, _, ⟨by omega, by omega, by omega, by omega, rfl, by simp only [List.length_set]; exact h7, Lib.hid ⟨?_, fun i hi => ?_⟩⟩, rfl, rfl, ?_, ?_, ?_, ?_⟩
          · omega
          · rw [show k + 1 + (j + 1 + 1) = k + 1 + (j + 1) + 1 from by omega, hstep, if_neg (fun e => hb (by rw [e1, e2]; exact_mod_cast e.symm)), ← hA, List.take_succ_eq_append_getElem (by simp; omega), List.getElem_set_self, List.take_set_of_le (by omega), e1]
            rfl
          · rw [List.getElem?_set_ne (by omega)]
            exact hB i (by omega)
          all_goals rfl
        · obtain ⟨hA, hB, e1, e2, hstep⟩ := hQ
          refine ⟨_, _, ?_, .refl _, k1, j + 1 + 1, zs, ⟨by omega, by omega, by omega, by omega, rfl, h7, Lib.hid ⟨?_, fun i hi => hB i (by omega)⟩⟩, rfl, rfl, ?_, ?_, ?_, ?_⟩
          · omega
          · rw [show k + 1 + (j + 1 + 1) = k + 1 + (j + 1) + 1 from by omega, hstep, if_pos (by rw [e1, e2] at hb; exact_mod_cast hb.symm), hA]
          all_goals rfl
      · obtain ⟨hA, _⟩ := h8
        rw [List.take_of_length_le (by omega : xs.length ≤ k + 1 + j)] at hA
        have hk1 : (dedupA xs).length = k1 := by rw [← hA, List.length_take]; omega
        have hcs : List.take k1 (zs.map VU) ++ ((List.replicate (xs.length - k1) [V.int .u64 0]).flatten ++ List.drop (k1 + (xs.length - k1)) (zs.map VU)) = compC xs := by
          rw [← List.map_take, hA, List.drop_of_length_le (by simp; omega), List.append_nil, compC, hk1]
          congr 1
          generalize xs.length - k1 = r
          induction r with
          | zero => rfl
          | succ r ih => rw [List.replicate_succ, List.flatten_cons, ih, List.replicate_succ]; rfl
        have hlen : (compC xs).length = xs.length := by
          rw [← hcs, ← List.append_assoc, List.drop_of_length_le (by simp; omega), List.append_nil]
          simp only [List.length_append, List.length_take, List.length_map, List.length_flatten, List.map_replicate, List.sum_replicate_nat, List.length_cons, List.length_nil]
          omega
        have hfin : List.take k1 (compC xs) = (dedupA xs).map VU := by
          rw [compC, List.take_left' (by simpa using hk1)]
        clear hA
        (try refine lcgoX ⟨?_⟩)
        (with_reducible refine c_region ?_)
        (try refine lcgoX ⟨?_⟩)
        (with_reducible refine c_region ?_)
        (try refine lcgoX ⟨?_⟩)
        rw [hcs]
        clear hcs
        ((with_reducible refine c_region_share [id] ?_ ?_); (intro h; cases h); simp (disch := (first | omega | assumption | (simp only [List.length_set, List.length_map]; omega) | ((repeat' with_reducible apply And.intro) <;> first | omega | assumption | rfl | (simp only [List.length_set, List.length_map]; omega) | (apply Or.inl; rfl) | (apply Or.inr; first | rfl | trivial | fail) | fail) | fail)) only [go_sem, if_pos, if_neg, wrapI, wrapU, decide_eq_true, decide_eq_false, beqT, beqF, bneT, bneF])
        (try refine lcgoX ⟨?_⟩)
        refine ⟨by first | exact .inr rfl | exact .inl rfl, .inl ⟨[], _, (by dsimp only [Tryd.f52]; exact lcsv), ?_, ?_⟩⟩
        · simp only [Nat.sub_zero, Nat.mul_one, List.drop_zero, hfin, SL, hk1]
        · (rw [List.take_of_length_le (by simp)])
    · repeat' (first | (refine lcgo ⟨?_⟩) | (fail) | ((first | (refine bsp ?_ ?_) | (refine csp ?_ ?_)); all_goals (intro hb; (fail_if_success (cases hb; done)); (try simp only [decide_eq_true_eq, decide_eq_false_iff_not, beq_iff_eq, bne_iff_ne, ne_eq, beq_eq_false_iff_ne, bne_eq_false_iff_eq, Bool.not_eq_true', Bool.not_eq_false', Bool.and_eq_true, Bool.or_eq_true, Decidable.not_not] at hb); (try simp only [go_sem]))))
      refine ⟨_, _, ?_, .refl _, k + 1 + 1, ⟨by omega, by omega, rfl, Lib.hid fun i h1 h2 => ?_⟩, rfl, rfl, ?_, ?_⟩
      · omega
      · rcases Nat.lt_or_ge (i + 1) (k + 1) with h | h
        · exact hnd i h1 h
        · obtain rfl : i = k := by omega
          exact he
      all_goals rfl
  · have hd : dedupA xs = xs := dedupA_id xs fun i hi => hnd i hi (by omega)
    rw [compC_id hd, hd]
    (try refine lcgoX ⟨?_⟩)
    (with_reducible refine c_region ?_)
    (try refine lcgoX ⟨?_⟩)
    ((with_reducible refine c_region_share [id] ?_ ?_); (intro h; cases h); simp (disch := (first | omega | assumption | (simp only [List.length_set, List.length_map]; omega) | ((repeat' with_reducible apply And.intro) <;> first | omega | assumption | rfl | (simp only [List.length_set, List.length_map]; omega) | (apply Or.inl; rfl) | (apply Or.inr; first | rfl | trivial | fail) | fail) | fail)) only [go_sem, if_pos, if_neg, wrapI, wrapU, decide_eq_true, decide_eq_false, beqT, beqF, bneT, bneF])
    (try refine lcgoX ⟨?_⟩)
    refine ⟨by first | exact .inr rfl | exact .inl rfl, .inl ⟨[], _, (by dsimp only [Tryd.f52]; exact lcsv), ?_, ?_⟩⟩
    · rfl
    · (rw [List.take_of_length_le (by simp)])
end Go.Proofs.YtgkhcjdpdgfdbaaDoor
namespace Go.Proofs.YtgkhcjdpdgfdbaaDoor
open Go Go.RowKit

attribute [local irreducible] EvOps EvC
attribute [local go_sem] List.set_set getS List.getElem_set_self List.length_set List.getElem?_toArray
set_option linter.unusedSimpArgs false
set_option linter.unusedVariables false
set_option maxRecDepth 100000
set_option maxHeartbeats 2000000
theorem insertionU0_ev (es : Option (TypeId × Nat)) (cs : List V) (id : Nat) (sto : Sto) (lo : Nat) (hlo : lo ≤ sto.length) (hl : lo ≤ id) (hid : id < sto.length) : CallEv Tryd.prog tab B0 77 [.arr id 0, .v (VI 0), .v (VI 0)] (sto.set id (.arr es true 0 cs)) lo (.v (.tup [])) (sto.set id (.arr es true 0 cs)) := by
  refine CallEv.intro ⟨_, _, [], Tryd.func77, rfl, by decide, ?_⟩; simp only [go_sem, Tryd.ntmps77]
  repeat' (first | (refine go ⟨?_⟩) | (fail) | ((first | (refine bsp ?_ ?_) | (refine csp ?_ ?_)); all_goals (intro hb; (fail_if_success (cases hb; done)); (try simp only [decide_eq_true_eq, decide_eq_false_iff_not, beq_iff_eq, bne_iff_ne, ne_eq, beq_eq_false_iff_ne, bne_eq_false_iff_eq, Bool.not_eq_true', Bool.not_eq_false', Bool.and_eq_true, Bool.or_eq_true, Decidable.not_not] at hb); (try simp only [go_sem]))))
  refine c_loop (fun m s => m = 0 ∧ (s.env.length = 49 ∧ s.sto = sto.set id (.arr es true 0 cs) ∧ s.env[0]? = some (.arr id 0) ∧ s.env[1]? = some (.v (VI 0)) ∧ s.env[2]? = some (.v (VI 0)) ∧ s.env[6]? = some (.v (VI 1)))) (.refl _) ⟨rfl, rfl, rfl, ?_, ?_, ?_, ?_⟩ ?_
  all_goals first | rfl | skip
  rintro m s ⟨rfl, hL, hT, k0, k1, k2, k6⟩
  obtain ⟨env, st0⟩ := s; obtain ⟨J, hJ⟩ := listJ hL; rw [show (List.range 49).map J = J 0 :: J 1 :: J 2 :: J 3 :: J 4 :: J 5 :: J 6 :: J 7 :: J 8 :: J 9 :: J 10 :: J 11 :: J 12 :: J 13 :: J 14 :: J 15 :: J 16 :: J 17 :: J 18 :: J 19 :: J 20 :: J 21 :: J 22 :: J 23 :: J 24 :: J 25 :: J 26 :: J 27 :: J 28 :: J 29 :: J 30 :: J 31 :: J 32 :: J 33 :: J 34 :: J 35 :: J 36 :: J 37 :: J 38 :: J 39 :: J 40 :: J 41 :: J 42 :: J 43 :: J 44 :: J 45 :: J 46 :: J 47 :: J 48 :: [] from by kernel_rfl] at hJ; replace k0 := Option.some.inj ((congrArg (·[0]?) hJ).symm.trans k0); replace k1 := Option.some.inj ((congrArg (·[1]?) hJ).symm.trans k1); replace k2 := Option.some.inj ((congrArg (·[2]?) hJ).symm.trans k2); replace k6 := Option.some.inj ((congrArg (·[6]?) hJ).symm.trans k6); rw [k0, k1, k2, k6] at hJ; dsimp only at hJ hT; subst hJ; replace hT := hT.symm; subst hT; clear hL k0 k1 k2 k6
  repeat' (first | (refine go ⟨?_⟩) | (fail) | ((first | (refine bsp ?_ ?_) | (refine csp ?_ ?_)); all_goals (intro hb; (fail_if_success (cases hb; done)); (try simp only [decide_eq_true_eq, decide_eq_false_iff_not, beq_iff_eq, bne_iff_ne, ne_eq, beq_eq_false_iff_ne, bne_eq_false_iff_eq, Bool.not_eq_true', Bool.not_eq_false', Bool.and_eq_true, Bool.or_eq_true, Decidable.not_not] at hb); (try simp only [go_sem]))))
  refine ⟨by first | exact .inr rfl | exact .inl rfl, .inl ⟨[], _, (by dsimp only [Tryd.f77]; exact sv), ?_, ?_⟩⟩
  · rfl
  · (rw [List.take_of_length_le (by simp)])
theorem pdqU0_ev (es : Option (TypeId × Nat)) (cs : List V) (l : Int) (id : Nat) (sto : Sto) (lo : Nat) (hlo : lo ≤ sto.length) (hl : lo ≤ id) (hid : id < sto.length) : CallEv Tryd.prog tab B0 74 [.arr id 0, .v (VI 0), .v (VI 0), .v (VI l)] (sto.set id (.arr es true 0 cs)) lo (.v (.tup [])) (sto.set id (.arr es true 0 cs)) := by
  have hi := insertionU0_ev es cs id sto lo hlo hl hid
  refine CallEv.intro ⟨_, _, [], Tryd.func74, rfl, by decide, ?_⟩; simp only [go_sem, Tryd.ntmps74]
  (try refine go ⟨?_⟩)
  refine c_loop (fun m s => m = 0 ∧ (s.env.length = 134 ∧ s.sto = sto.set id (.arr es true 0 cs) ∧ s.env[0]? = some (.arr id 0) ∧ s.env[1]? = some (.v (VI 0)) ∧ s.env[2]? = some (.v (VI 0)) ∧ s.env[3]? = some (.v (VI l)) ∧ s.env[8]? = some (.v (.bool true)) ∧ s.env[9]? = some (.v (.bool true)))) (.refl _) ⟨rfl, rfl, rfl, ?_, ?_, ?_, ?_, ?_, ?_⟩ ?_
  all_goals first | rfl | skip
  rintro m s ⟨rfl, hL, hT, k0, k1, k2, k3, k8, k9⟩
  obtain ⟨env, st0⟩ := s; obtain ⟨J, hJ⟩ := listJ hL; rw [show (List.range 134).map J = J 0 :: J 1 :: J 2 :: J 3 :: J 4 :: J 5 :: J 6 :: J 7 :: J 8 :: J 9 :: J 10 :: J 11 :: J 12 :: J 13 :: J 14 :: J 15 :: J 16 :: J 17 :: J 18 :: J 19 :: J 20 :: J 21 :: J 22 :: J 23 :: J 24 :: J 25 :: J 26 :: J 27 :: J 28 :: J 29 :: J 30 :: J 31 :: J 32 :: J 33 :: J 34 :: J 35 :: J 36 :: J 37 :: J 38 :: J 39 :: J 40 :: J 41 :: J 42 :: J 43 :: J 44 :: J 45 :: J 46 :: J 47 :: J 48 :: J 49 :: J 50 :: J 51 :: J 52 :: J 53 :: J 54 :: J 55 :: J 56 :: J 57 :: J 58 :: J 59 :: J 60 :: J 61 :: J 62 :: J 63 :: J 64 :: J 65 :: J 66 :: J 67 :: J 68 :: J 69 :: J 70 :: J 71 :: J 72 :: J 73 :: J 74 :: J 75 :: J 76 :: J 77 :: J 78 :: J 79 :: J 80 :: J 81 :: J 82 :: J 83 :: J 84 :: J 85 :: J 86 :: J 87 :: J 88 :: J 89 :: J 90 :: J 91 :: J 92 :: J 93 :: J 94 :: J 95 :: J 96 :: J 97 :: J 98 :: J 99 :: J 100 :: J 101 :: J 102 :: J 103 :: J 104 :: J 105 :: J 106 :: J 107 :: J 108 :: J 109 :: J 110 :: J 111 :: J 112 :: J 113 :: J 114 :: J 115 :: J 116 :: J 117 :: J 118 :: J 119 :: J 120 :: J 121 :: J 122 :: J 123 :: J 124 :: J 125 :: J 126 :: J 127 :: J 128 :: J 129 :: J 130 :: J 131 :: J 132 :: J 133 :: [] from by kernel_rfl] at hJ; replace k0 := Option.some.inj ((congrArg (·[0]?) hJ).symm.trans k0); replace k1 := Option.some.inj ((congrArg (·[1]?) hJ).symm.trans k1); replace k2 := Option.some.inj ((congrArg (·[2]?) hJ).symm.trans k2); replace k3 := Option.some.inj ((congrArg (·[3]?) hJ).symm.trans k3); replace k8 := Option.some.inj ((congrArg (·[8]?) hJ).symm.trans k8); replace k9 := Option.some.inj ((congrArg (·[9]?) hJ).symm.trans k9); rw [k0, k1, k2, k3, k8, k9] at hJ; dsimp only at hJ hT; subst hJ; replace hT := hT.symm; subst hT; clear hL k0 k1 k2 k3 k8 k9
  repeat' (first | (refine go ⟨?_⟩) | (((with_reducible apply ops_callW); rfl; (simp (disch := (first | omega | assumption | ((repeat' with_reducible apply And.intro) <;> first | omega | assumption | rfl | (apply Or.inl; rfl) | (apply Or.inr; first | rfl | trivial | fail) | fail) | fail)) only [go_sem, if_pos, if_neg, wrapI, wrapU, decide_eq_true, decide_eq_false, beqT, beqF, bneT, bneF] <;> rfl); (exact hi); (first | exact ho_arr | exact ho_arr2 | exact ho_map | exact ho_app (by first | omega | (simp; done) | (simp; omega)) | exact ho_app2 (by first | omega | (simp; done) | (simp; omega))); (try simp only [go_sem]))) | ((first | (refine bsp ?_ ?_) | (refine csp ?_ ?_)); all_goals (intro hb; (fail_if_success (cases hb; done)); (try simp only [decide_eq_true_eq, decide_eq_false_iff_not, beq_iff_eq, bne_iff_ne, ne_eq, beq_eq_false_iff_ne, bne_eq_false_iff_eq, Bool.not_eq_true', Bool.not_eq_false', Bool.and_eq_true, Bool.or_eq_true, Decidable.not_not] at hb); (try simp only [go_sem]))))
  refine ⟨by first | exact .inr rfl | exact .inl rfl, .inl ⟨[], _, (by dsimp only [Tryd.f74]; exact sv), ?_, ?_⟩⟩
  · rfl
  · (rw [List.take_of_length_le (by simp)])
theorem sortU0_ev (es : Option (TypeId × Nat)) (cs : List V) (id : Nat) (sto : Sto) (lo : Nat) (hlo : lo ≤ sto.length) (hl : lo ≤ id) (hid : id < sto.length) : CallEv Tryd.prog tab B0 66 [.arr id 0] (sto.set id (.arr es true 0 cs)) lo (.v (.tup [])) (sto.set id (.arr es true 0 cs)) := by
  obtain ⟨r, hr⟩ := len_ev 0 (by omega) (sto.set id (.arr es true 0 cs)) lo (by simpa using hlo)
  have hi := pdqU0_ev es cs r id sto lo hlo hl hid
  refine CallEv.intro ⟨_, _, [], Tryd.func66, rfl, by decide, ?_⟩; simp only [go_sem, Tryd.ntmps66]
  repeat' (first | (refine go ⟨?_⟩) | (first | ((refine call ?_); (refine ⟨_, hr, ?_⟩); (try simp only [go_sem])) | ((with_reducible apply ops_callW); rfl; (simp (disch := (first | omega | assumption | ((repeat' with_reducible apply And.intro) <;> first | omega | assumption | rfl | (apply Or.inl; rfl) | (apply Or.inr; first | rfl | trivial | fail) | fail) | fail)) only [go_sem, if_pos, if_neg, wrapI, wrapU, decide_eq_true, decide_eq_false, beqT, beqF, bneT, bneF] <;> rfl); (exact hi); (first | exact ho_arr | exact ho_arr2 | exact ho_map | exact ho_app (by first | omega | (simp; done) | (simp; omega)) | exact ho_app2 (by first | omega | (simp; done) | (simp; omega))); (try simp only [go_sem]))) | ((first | (refine bsp ?_ ?_) | (refine csp ?_ ?_)); all_goals (intro hb; (fail_if_success (cases hb; done)); (try simp only [decide_eq_true_eq, decide_eq_false_iff_not, beq_iff_eq, bne_iff_ne, ne_eq, beq_eq_false_iff_ne, bne_eq_false_iff_eq, Bool.not_eq_true', Bool.not_eq_false', Bool.and_eq_true, Bool.or_eq_true, Decidable.not_not] at hb); (try simp only [go_sem]))))
  refine ⟨by first | exact .inr rfl | exact .inl rfl, .inl ⟨[], _, (by dsimp only [Tryd.f66]; exact sv), ?_, ?_⟩⟩
  · rfl
  · (rw [List.take_of_length_le (by simp)])
/-- .. in whatever entries. -/
theorem sortU_at (xs : List Nat) (id : Nat) (hx : xs.length < 13) (sto : Sto) (lo : Nat) (hlo : lo ≤ sto.length) (hl : lo ≤ id) (hs : sto[id]? = some (.arr (if xs.length = 0 then none else some (67, 1)) true xs.length (xs.map VU))) : CallEv Tryd.prog tab B0 66 [.arr id xs.length] sto lo (.v (.tup [])) (sto.set id (.arr (if xs.length = 0 then none else some (67, 1)) true xs.length ((sortN xs).map VU))) := by
  have hid : id < sto.length := (List.getElem?_eq_some_iff.1 hs).1
  by_cases h0 : xs.length = 0
  · obtain rfl : xs = [] := List.eq_nil_of_length_eq_zero h0
    have := sortU0_ev none [] id sto lo hlo hl hid
    have e : sto.set id (.arr none true 0 []) = sto := set_sameE hs
    have e2 : (sortN []).map VU = [] := by simp [sortN]
    simp only [List.length_nil, if_true, e2]
    rw [e] at this ⊢
    exact this
  · have := sortU_ev xs id hx sto lo hlo hl hid
    simp only [if_neg h0] at hs ⊢
    rw [set_sameE hs] at this
    exact this
theorem sortedU_ev (xs : List Nat) (id : Nat) (hx : xs.length < 13) (sto : Sto) (lo : Nat) (hlo : lo ≤ sto.length) (hs : sto[id]? = some (.cells [.v (SL VU xs)])) : CallEv Tryd.prog tab collB 53 [.clo 67 [id]] sto lo (.arr sto.length xs.length) (sto ++ [.arr (if xs.length = 0 then none else some (67, 1)) true xs.length ((sortN xs).map VU)]) := by
  have h1 : ∀ lo2, CallEv Tryd.prog tab collB 65 [.clo 67 [id]] sto lo2 (.arr sto.length xs.length) (sto ++ [.arr (if xs.length = 0 then none else some (67, 1)) true xs.length (xs.map VU)]) := fun lo2 => CallEv.base ⟨rfl, id, _, _, rfl, hs, by simp, by omega, rfl, rfl⟩
  have h2 := (sortU_at xs sto.length hx (sto ++ [.arr (if xs.length = 0 then none else some (67, 1)) true xs.length (xs.map VU)]) lo (by simp; omega) hlo (by simp)).up0 (B := collB)
  rw [set_app0] at h2
  refine CallEv.intro ⟨_, _, [], Tryd.func53, rfl, by decide, ?_⟩; simp only [go_sem, Tryd.ntmps53]
  repeat' (first | (refine go ⟨?_⟩) | (first | ((with_reducible apply ops_callW); rfl; (simp (disch := (first | omega | assumption | ((repeat' with_reducible apply And.intro) <;> first | omega | assumption | rfl | (apply Or.inl; rfl) | (apply Or.inr; first | rfl | trivial | fail) | fail) | fail)) only [go_sem, if_pos, if_neg, wrapI, wrapU, decide_eq_true, decide_eq_false, beqT, beqF, bneT, bneF] <;> rfl); (exact h1 _); (first | exact ho_arr | exact ho_arr2 | exact ho_map | exact ho_app (by first | omega | (simp; done) | (simp; omega)) | exact ho_app2 (by first | omega | (simp; done) | (simp; omega))); (try simp only [go_sem])) | ((with_reducible apply ops_callW); rfl; (simp (disch := (first | omega | assumption | ((repeat' with_reducible apply And.intro) <;> first | omega | assumption | rfl | (apply Or.inl; rfl) | (apply Or.inr; first | rfl | trivial | fail) | fail) | fail)) only [go_sem, if_pos, if_neg, wrapI, wrapU, decide_eq_true, decide_eq_false, beqT, beqF, bneT, bneF] <;> rfl); (exact h2); (first | exact ho_arr | exact ho_arr2 | exact ho_map | exact ho_app (by first | omega | (simp; done) | (simp; omega)) | exact ho_app2 (by first | omega | (simp; done) | (simp; omega))); (try simp only [go_sem]))) | ((first | (refine bsp ?_ ?_) | (refine csp ?_ ?_)); all_goals (intro hb; (fail_if_success (cases hb; done)); (try simp only [decide_eq_true_eq, decide_eq_false_iff_not, beq_iff_eq, bne_iff_ne, ne_eq, beq_eq_false_iff_ne, bne_eq_false_iff_eq, Bool.not_eq_true', Bool.not_eq_false', Bool.and_eq_true, Bool.or_eq_true, Decidable.not_not] at hb); (try simp only [go_sem]))))
  refine ⟨by first | exact .inr rfl | exact .inl rfl, .inr (.inl ⟨_, rfl, ?_, ?_⟩)⟩
  · rfl
  · rfl
end Go.Proofs.YtgkhcjdpdgfdbaaDoor
namespace Go.Proofs.YtgkhcjdpdgfdbaaDoor
open Go Go.RowKit

attribute [local irreducible] EvOps EvC
attribute [local go_sem] List.set_set getS List.getElem_set_self List.length_set List.getElem?_toArray
set_option linter.unusedSimpArgs false
set_option linter.unusedVariables false
set_option maxRecDepth 100000
set_option maxHeartbeats 2000000
theorem compactU0_ev (es : Option (TypeId × Nat)) (id : Nat) (sto : Sto) (lo : Nat) (hlo : lo ≤ sto.length) (hl : lo ≤ id) (hid : id < sto.length) : CallEv Tryd.prog tab B0 52 [.arr id 0] (sto.set id (.arr es true 0 [])) lo (.v (.sl 0 [])) (sto.set id (.arr es false 0 [])) := by
  refine CallEv.intro ⟨_, _, [], Tryd.func52, rfl, by decide, ?_⟩; simp only [go_sem, Tryd.ntmps52]
  (try refine goX ⟨?_⟩)
  (with_reducible refine c_region ?_)
  (try refine goX ⟨?_⟩)
  (with_reducible refine c_region ?_)
  (try refine goX ⟨?_⟩)
  ((with_reducible refine c_region_share [id] ?_ ?_); (intro h; cases h); simp (disch := (first | omega | assumption | ((repeat' with_reducible apply And.intro) <;> first | omega | assumption | rfl | (apply Or.inl; rfl) | (apply Or.inr; first | rfl | trivial | fail) | fail) | fail)) only [go_sem, if_pos, if_neg, wrapI, wrapU, decide_eq_true, decide_eq_false, beqT, beqF, bneT, bneF])
  (try refine goX ⟨?_⟩)
  refine ⟨by first | exact .inr rfl | exact .inl rfl, .inl ⟨[], _, (by dsimp only [Tryd.f52]; exact sv), ?_, ?_⟩⟩
  · rfl
  · (rw [List.take_of_length_le (by simp)])
/-- .. in whatever entries. -/
theorem compactU_at (xs : List Nat) (id : Nat) (hx : xs.length < 1000000000) (sto : Sto) (lo : Nat) (hlo : lo ≤ sto.length) (hl : lo ≤ id) (hs : sto[id]? = some (.arr (if xs.length = 0 then none else some (67, 1)) true xs.length (xs.map VU))) : CallEv Tryd.prog tab B0 52 [.arr id xs.length] sto lo (.v (SL VU (dedupA xs))) (sto.set id (.arr (if xs.length = 0 then none else some (67, 1)) false xs.length (compC xs))) := by
  have hid : id < sto.length := (List.getElem?_eq_some_iff.1 hs).1
  by_cases h0 : xs.length = 0
  · obtain rfl : xs = [] := List.eq_nil_of_length_eq_zero h0
    have := compactU0_ev none id sto lo hlo hl hid
    have e : sto.set id (.arr none true 0 []) = sto := set_sameE hs
    rw [e] at this
    exact this
  · have := compactU_ev xs id hx sto lo hlo hl hid
    simp only [if_neg h0] at hs ⊢
    rw [set_sameE hs] at this
    exact this
end Go.Proofs.YtgkhcjdpdgfdbaaDoor
namespace Go.Proofs.YtgkhcjdpdgfdbaaDoor
abbrev ints (l : List Nat) : List Int := l.map fun n : Nat => (n : Int)
theorem LI_ints (l : List Nat) : LI (ints l) = .sl l.length ((ints l).map VI) := by simp [LI, SL]
def cAt (cost : List Int) (t : Int) : Int := cost.getD t.toNat 0
def priceS (cost ts : List Int) : Int := (ts.map (cAt cost)).sum
def meetsS (a b : List Int) : Bool := a.any (· ∈ b)
def leftB (rows : List (List Int)) (ts : List Int) (i : Nat) : Bool := decide (0 < (rows.getD i []).length) && !meetsS (rows.getD i []) ts
def leftS (rows : List (List Int)) (ts : List Int) : List Nat := (List.range rows.length).filter (leftB rows ts)
/-- Strictly increasing, from 0 on, below n. -/
def incS (n : Nat) : Int → List Int → Bool
  | _, [] => true
  | a, t :: ts => decide (a < t) && decide (t < n) && incS n t ts
def suiteS (rows : List (List Int)) (cost ts : List Int) : Bool := incS cost.length (-1) ts && (leftS rows ts).isEmpty
def subsetS (n many : Nat) : List Nat := (List.range many).filter n.testBit
def lexS : List Int → List Int → Bool
  | a :: as1, b :: bs => if a = b then lexS as1 bs else decide (a < b)
  | _, _ => false
def beforeS (a b cost : List Int) : Bool :=
  if priceS cost a ≠ priceS cost b then decide (priceS cost a < priceS cost b) else if a.length ≠ b.length then decide (a.length < b.length) else lexS a b
def cheapS (cost ts : List Int) : Int := ts.foldl (fun n t => min n (cAt cost t)) 1048576
def testsS (row : List Int) : List Nat := (List.range 16).filter fun t => decide ((t : Int) ∈ row)
def killsS (rows : List (List Int)) (left : List Nat) (t : Int) : Nat := left.countP fun i => decide (t ∈ rows.getD i [])
def leastS (rows : List (List Int)) (cost : List Int) : List Int :=
  (List.range (2 ^ cost.length)).foldl (fun best n => if suiteS rows cost (ints (subsetS n cost.length)) && beforeS (ints (subsetS n cost.length)) best cost then ints (subsetS n cost.length) else best) (ints (subsetS (2 ^ cost.length - 1) cost.length))
def possS (rows : List (List Int)) (cost : List Int) : Bool :=
  decide (rows.length ≤ 512) && decide (cost.length ≤ 16) && (cost.all fun c => decide (0 ≤ c) && decide (c ≤ 1048576)) && rows.all fun r => r.all fun t => decide (0 ≤ t) && decide (t < cost.length)
/-- Certificates. -/
inductive Crt where
  | mk (row : Int) (pack : List Int) (kids : List Crt)
def Crt.row : Crt → Int | .mk r _ _ => r
def Crt.pack : Crt → List Int | .mk _ p _ => p
def Crt.kids : Crt → List Crt | .mk _ _ k => k
mutual
def cellsC : Crt → List V
  | .mk r p k => [VI r, LI p, .sl k.length (cellsCs k)]
def cellsCs : List Crt → List V
  | [] => []
  | c :: cs => cellsC c ++ cellsCs cs
end
abbrev CV (c : Crt) : V := .agg (cellsC c)
attribute [go_sem] cellsC
mutual
def csz : Crt → Nat
  | .mk _ p k => 1 + p.length + cszs k
def cszs : List Crt → Nat
  | [] => 0
  | c :: cs => 1 + csz c + cszs cs
end
def rowAt (rows : List (List Int)) (i : Int) : List Int := rows.getD i.toNat []
/-- A pack: rows that are left, in increasing order, no two of which meet. -/
def packS (rows : List (List Int)) (left : List Int) : List Int → List Int → Bool
  | _, [] => true
  | prev, p :: ps => decide (p ∈ left) && (match prev.getLast? with | some q => decide (q < p) | none => true) && !(prev.any fun q => meetsS (rowAt rows p) (rowAt rows q)) && packS rows left (prev ++ [p]) ps
mutual
def showsS (rows : List (List Int)) (cost : List Int) (bound : Int) : Crt → List Int → Bool
  | .mk r p k, ts =>
    if k.length = 0 then packS rows (ints (leftS rows ts)) [] p && decide (priceS cost ts + (p.map fun i => cheapS cost (rowAt rows i)).sum ≥ bound)
    else decide (p.length = 0) && decide (r ∈ ints (leftS rows ts)) && decide ((testsS (rowAt rows r)).length = k.length) && showsL rows cost bound k (ints (testsS (rowAt rows r))) ts
def showsL (rows : List (List Int)) (cost : List Int) (bound : Int) : List Crt → List Int → List Int → Bool
  | c :: cs, t :: l, ts => showsS rows cost bound c (ts ++ [t]) && showsL rows cost bound cs l ts
  | _, _, _ => true
end
def checkS (rows : List (List Int)) (cost : List Int) (ts : List Int) (c : Crt) : Int → Int → Int → Int
  | ok, ea, ec => if !possS rows cost then ea else if !suiteS rows cost ts then ec else if showsS rows cost (priceS cost ts) c [] then ok else ec
end Go.Proofs.YtgkhcjdpdgfdbaaDoor
namespace Go.Proofs.YtgkhcjdpdgfdbaaDoor
open Go Go.RowKit

attribute [local irreducible] EvOps EvC
set_option linter.unusedSimpArgs false
set_option linter.unusedVariables false
set_option maxRecDepth 100000
theorem has_ev (xs : List Int) (x : Int) (hx : xs.length < 4611686018427387904) (sto : Sto) (lo : Nat) (hlo : lo ≤ sto.length) : CallEv Tryd.prog tab B0 61 [.v (LI xs), .v (VI x)] sto lo (.v (.bool (decide (x ∈ xs)))) sto := by
  refine CallEv.intro ⟨_, _, [], Tryd.func61, rfl, by decide, ?_⟩; simp only [go_sem, Tryd.ntmps61]
  (try refine go ⟨?_⟩)
  refine c_loop (fun m s => ∃ i : Nat, (i ≤ xs.length ∧ m = xs.length - i ∧ x ∉ xs.take i) ∧ (s.env.length = 18 ∧ s.sto = sto ∧ s.env[0]? = some (.v (LI xs)) ∧ s.env[1]? = some (.v (VI x)) ∧ s.env[5]? = some (.v (VI i)))) (.refl _) ⟨0, ⟨by omega, rfl, by simp⟩, rfl, rfl, ?_, ?_, ?_⟩ ?_
  all_goals first | rfl | skip
  rintro m s ⟨i, ⟨h1, rfl, h3⟩, hL, hT, k0, k1, k5⟩
  obtain ⟨env, st0⟩ := s; obtain ⟨J, hJ⟩ := listJ hL; rw [show (List.range 18).map J = J 0 :: J 1 :: J 2 :: J 3 :: J 4 :: J 5 :: J 6 :: J 7 :: J 8 :: J 9 :: J 10 :: J 11 :: J 12 :: J 13 :: J 14 :: J 15 :: J 16 :: J 17 :: [] from by kernel_rfl] at hJ; replace k0 := Option.some.inj ((congrArg (·[0]?) hJ).symm.trans k0); replace k1 := Option.some.inj ((congrArg (·[1]?) hJ).symm.trans k1); replace k5 := Option.some.inj ((congrArg (·[5]?) hJ).symm.trans k5); rw [k0, k1, k5] at hJ; dsimp only at hJ hT; subst hJ; replace hT := hT.symm; subst hT; clear hL k0 k1 k5
  (try refine go ⟨?_⟩)
  refine c_cond sv (fun hb => ?_) (fun hb => ?_)
  · simp only [decide_eq_true_eq] at hb
    (try refine go ⟨?_⟩)
    refine c_cond sv (fun hb => ?_) (fun hb => ?_)
    · (try refine go ⟨?_⟩)
      refine ⟨by first | exact .inr rfl | exact .inl rfl, .inl ⟨[], _, (by dsimp only [Tryd.f61]; exact sv), ?_, by simp⟩⟩
      rename_i h
      have : xs[i] = x := by simpa using hb
      subst this
      simp
    · (try refine go ⟨?_⟩)
      refine ⟨_, _, ?_, .refl _, i + 1, ⟨?_, rfl, ?_⟩, rfl, rfl, ?_, ?_, ?_⟩
      · omega
      · omega
      · simp at hb
        rw [take_succ (by omega)]
        simp only [List.mem_append, List.mem_singleton, h3, false_or]; exact fun h => hb h.symm
      all_goals rfl
  · simp only [decide_eq_false_iff_not] at hb
    (try refine go ⟨?_⟩)
    refine ⟨by first | exact .inr rfl | exact .inl rfl, .inl ⟨[], _, (by dsimp only [Tryd.f61]; exact sv), ?_, by simp⟩⟩
    rw [List.take_of_length_le (by omega)] at h3
    simp [h3]
theorem meets_ev (a b : List Int) (ha : a.length < 4611686018427387904) (hb' : b.length < 4611686018427387904) (sto : Sto) (lo : Nat) (hlo : lo ≤ sto.length) : CallEv Tryd.prog tab B0 49 [.v (LI a), .v (LI b)] sto lo (.v (.bool (meetsS a b))) sto := by
  refine CallEv.intro ⟨_, _, [], Tryd.func49, rfl, by decide, ?_⟩; simp only [go_sem, Tryd.ntmps49]
  (try refine go ⟨?_⟩)
  refine c_loop (fun m s => ∃ i : Nat, (i ≤ a.length ∧ m = a.length - i ∧ (a.take i).any (· ∈ b) = false) ∧ (s.env.length = 18 ∧ s.sto = sto ∧ s.env[0]? = some (.v (LI a)) ∧ s.env[1]? = some (.v (LI b)) ∧ s.env[5]? = some (.v (VI i)))) (.refl _) ⟨0, ⟨by omega, rfl, by simp⟩, rfl, rfl, ?_, ?_, ?_⟩ ?_
  all_goals first | rfl | skip
  rintro m s ⟨i, ⟨h1, rfl, h3⟩, hL, hT, k0, k1, k5⟩
  obtain ⟨env, st0⟩ := s; obtain ⟨J, hJ⟩ := listJ hL; rw [show (List.range 18).map J = J 0 :: J 1 :: J 2 :: J 3 :: J 4 :: J 5 :: J 6 :: J 7 :: J 8 :: J 9 :: J 10 :: J 11 :: J 12 :: J 13 :: J 14 :: J 15 :: J 16 :: J 17 :: [] from by kernel_rfl] at hJ; replace k0 := Option.some.inj ((congrArg (·[0]?) hJ).symm.trans k0); replace k1 := Option.some.inj ((congrArg (·[1]?) hJ).symm.trans k1); replace k5 := Option.some.inj ((congrArg (·[5]?) hJ).symm.trans k5); rw [k0, k1, k5] at hJ; dsimp only at hJ hT; subst hJ; replace hT := hT.symm; subst hT; clear hL k0 k1 k5
  (try refine go ⟨?_⟩)
  refine c_cond sv (fun hb => ?_) (fun hb => ?_)
  · simp only [decide_eq_true_eq] at hb
    (try refine go ⟨?_⟩)
    ((refine call ?_); (refine ⟨_, has_ev _ _ (by omega) _ _ (by first | omega | (simp; done) | (simp; omega)), ?_⟩); (try simp only [go_sem]))
    (try refine go ⟨?_⟩)
    refine c_cond sv (fun hb => ?_) (fun hb => ?_)
    · (try refine go ⟨?_⟩)
      refine ⟨by first | exact .inr rfl | exact .inl rfl, .inl ⟨[], _, (by dsimp only [Tryd.f49]; exact sv), ?_, by simp⟩⟩
      simp only [decide_eq_true_eq] at hb
      have : meetsS a b = true := List.any_eq_true.2 ⟨a[i], List.getElem_mem (by omega), by simpa using hb⟩
      rw [this]
    · (try refine go ⟨?_⟩)
      refine ⟨_, _, ?_, .refl _, i + 1, ⟨?_, rfl, ?_⟩, rfl, rfl, ?_, ?_, ?_⟩
      · omega
      · omega
      · rw [take_succ (by omega), List.any_append, h3]
        simpa using hb
      all_goals rfl
  · simp only [decide_eq_false_iff_not] at hb
    (try refine go ⟨?_⟩)
    refine ⟨by first | exact .inr rfl | exact .inl rfl, .inl ⟨[], _, (by dsimp only [Tryd.f49]; exact sv), ?_, by simp⟩⟩
    rw [List.take_of_length_le (by omega)] at h3
    rw [meetsS, h3]
theorem refLeft_ev (rows : List (List Int)) (ts : List Int) (hr : rows.length < 1000000) (hrr : ∀ r ∈ rows, r.length < 1000000) (ht : ts.length < 4611686018427387904) (sto : Sto) (lo : Nat) (hlo : lo ≤ sto.length) : CallEv Tryd.prog tab B0 30 [.v (LLI rows), .v (LI ts)] sto lo (.v (LI (ints (leftS rows ts)))) sto := by
  refine CallEv.intro ⟨_, _, [], Tryd.func30, rfl, by decide, ?_⟩; simp only [go_sem, Tryd.ntmps30]
  (try refine go ⟨?_⟩)
  refine c_loop (fun m s => ∃ i n cs es, (i ≤ rows.length ∧ m = rows.length - i ∧ n = ((List.range i).filter (leftB rows ts)).length ∧ cs = (ints ((List.range i).filter (leftB rows ts))).map VI ∧ (es = none ∨ es = some (3, 1))) ∧ (s.env.length = 33 ∧ s.sto = sto ++ [.arr es false n cs] ∧ s.env[0]? = some (.v (LLI rows)) ∧ s.env[1]? = some (.v (LI ts)) ∧ s.env[5]? = some (.arr sto.length n) ∧ s.env[6]? = some (.v (VI i)))) (.adopt _ 5 false rfl hlo) ⟨0, _, _, _, ⟨by omega, rfl, rfl, rfl, .inl rfl⟩, rfl, rfl, ?_, ?_, ?_, ?_⟩ ?_
  all_goals first | rfl | skip
  rintro m s ⟨i, n, cs, es, ⟨h1, rfl, rfl, rfl, h3⟩, hL, hT, k0, k1, k5, k6⟩
  obtain ⟨env, st0⟩ := s; obtain ⟨J, hJ⟩ := listJ hL; rw [show (List.range 33).map J = J 0 :: J 1 :: J 2 :: J 3 :: J 4 :: J 5 :: J 6 :: J 7 :: J 8 :: J 9 :: J 10 :: J 11 :: J 12 :: J 13 :: J 14 :: J 15 :: J 16 :: J 17 :: J 18 :: J 19 :: J 20 :: J 21 :: J 22 :: J 23 :: J 24 :: J 25 :: J 26 :: J 27 :: J 28 :: J 29 :: J 30 :: J 31 :: J 32 :: [] from by kernel_rfl] at hJ; replace k0 := Option.some.inj ((congrArg (·[0]?) hJ).symm.trans k0); replace k1 := Option.some.inj ((congrArg (·[1]?) hJ).symm.trans k1); replace k5 := Option.some.inj ((congrArg (·[5]?) hJ).symm.trans k5); replace k6 := Option.some.inj ((congrArg (·[6]?) hJ).symm.trans k6); rw [k0, k1, k5, k6] at hJ; dsimp only at hJ hT; subst hJ; replace hT := hT.symm; subst hT; clear hL k0 k1 k5 k6
  have hn : ((List.range i).filter (leftB rows ts)).length ≤ i := by simpa using List.length_filter_le (leftB rows ts) (List.range i)
  by_cases hb : i < rows.length
  · have hri := hrr rows[i] (List.getElem_mem hb)
    have hg : rows.getD i [] = rows[i] := by simp [List.getD, hb]
    by_cases hp : 0 < rows[i].length
    · (try refine go ⟨?_⟩)
      ((refine call ?_); (refine ⟨_, meets_ev _ _ (by omega) (by omega) _ _ (by first | omega | (simp; done) | (simp; omega)), ?_⟩); (try simp only [go_sem]))
      (try refine go ⟨?_⟩)
      cases hq : meetsS rows[i] ts
      · have hl : leftB rows ts i = true := by simp [leftB, hg, hp, hq, -List.getD_eq_getElem?_getD]
        simp only [hq, Bool.not_false, Bool.not_true]
        (try refine go ⟨?_⟩)
        refine ⟨_, _, ?_, .refl _, i + 1, _, _, _, ⟨by omega, rfl, ?_, ?_, .inr rfl⟩, rfl, rfl, ?_, ?_, ?_, ?_⟩
        · omega
        · rw [List.range_succ, List.filter_append]; simp [hl]
        · rw [List.range_succ, List.filter_append]; simp [hl]
        all_goals rfl
      · have hl : leftB rows ts i = false := by simp [leftB, hg, hp, hq, -List.getD_eq_getElem?_getD]
        simp only [hq, Bool.not_false, Bool.not_true]
        (try refine go ⟨?_⟩)
        refine ⟨_, _, ?_, .refl _, i + 1, _, _, _, ⟨by omega, rfl, ?_, ?_, h3⟩, rfl, rfl, ?_, ?_, ?_, ?_⟩
        · omega
        · rw [List.range_succ, List.filter_append]; simp [hl]
        · rw [List.range_succ, List.filter_append]; simp [hl]
        all_goals rfl
    · have hl : leftB rows ts i = false := by simp [leftB, hg, hp, -List.getD_eq_getElem?_getD]
      (try refine go ⟨?_⟩)
      refine ⟨_, _, ?_, .refl _, i + 1, _, _, _, ⟨by omega, rfl, ?_, ?_, h3⟩, rfl, rfl, ?_, ?_, ?_, ?_⟩
      · omega
      · rw [List.range_succ, List.filter_append]; simp [hl]
      · rw [List.range_succ, List.filter_append]; simp [hl]
      all_goals rfl
  · (try refine go ⟨?_⟩)
    refine ⟨by first | exact .inr rfl | exact .inl rfl, .inl ⟨[], _, (by dsimp only [Tryd.f30]; exact sv), ?_, by simp⟩⟩
    obtain rfl : i = rows.length := by omega
    rw [LI_ints]; rfl
end Go.Proofs.YtgkhcjdpdgfdbaaDoor
namespace Go.Proofs.YtgkhcjdpdgfdbaaDoor
open Go Go.RowKit

attribute [local irreducible] EvOps EvC
set_option linter.unusedSimpArgs false
set_option linter.unusedVariables false
set_option maxRecDepth 100000
set_option maxHeartbeats 4000000
theorem all_false {α : Type} {f : α → Bool} {l : List α} {i : Nat} (h : i < l.length) (hf : f l[i] = false) : l.all f = false := by
  rw [List.all_eq_false]; exact ⟨l[i], List.getElem_mem h, by simp [hf]⟩
theorem all_take {α : Type} {f : α → Bool} {l : List α} {i : Nat} (h : i < l.length) (ha : (l.take i).all f = true) (hf : f l[i] = true) : (l.take (i + 1)).all f = true := by
  rw [List.take_succ_eq_append_getElem h, List.all_append, ha]; simp [hf]
def costP (c : Int) : Bool := decide (0 ≤ c) && decide (c ≤ 1048576)
def testP (n : Nat) (t : Int) : Bool := decide (0 ≤ t) && decide (t < n)
theorem possS_eq (rows : List (List Int)) (cost : List Int) : possS rows cost = (decide (rows.length ≤ 512) && decide (cost.length ≤ 16) && cost.all costP && rows.all fun r => r.all (testP cost.length)) := rfl
theorem refPossible_ev (rows : List (List Int)) (cost : List Int) (hr : rows.length < 1000000) (hrr : ∀ r ∈ rows, r.length < 1000000) (hc : cost.length < 1000000) (sto : Sto) (lo : Nat) (hlo : lo ≤ sto.length) : CallEv Tryd.prog tab B0 46 [.v (LLI rows), .v (LI cost)] sto lo (.v (.bool (possS rows cost))) sto := by
  rw [possS_eq]
  refine CallEv.intro ⟨_, _, [], Tryd.func46, rfl, by decide, ?_⟩; simp only [go_sem, Tryd.ntmps46]
  by_cases c1 : rows.length > 512
  · (try refine go ⟨?_⟩)
    refine ⟨by first | exact .inr rfl | exact .inl rfl, .inl ⟨[], _, (by dsimp only [Tryd.f46]; exact sv), ?_, by simp⟩⟩
    simp [show ¬ rows.length ≤ 512 by omega]
  by_cases c2 : cost.length > 16
  · (try refine go ⟨?_⟩)
    refine ⟨by first | exact .inr rfl | exact .inl rfl, .inl ⟨[], _, (by dsimp only [Tryd.f46]; exact sv), ?_, by simp⟩⟩
    simp [show ¬ cost.length ≤ 16 by omega]
  rw [decide_eq_true (show rows.length ≤ 512 by omega), decide_eq_true (show cost.length ≤ 16 by omega)]
  simp only [Bool.true_and]
  (try refine go ⟨?_⟩)
  refine c_loop (fun m s => ∃ (i : Nat), (i ≤ cost.length ∧ m = cost.length - i ∧ (cost.take i).all costP = true) ∧ (s.env.length = 69 ∧ s.sto = sto ∧ s.env[0]? = some (.v (LLI rows)) ∧ s.env[1]? = some (.v (LI cost)) ∧ s.env[5]? = some (.v (VI i)))) (.refl _) ⟨0, ⟨by omega, rfl, by simp⟩, rfl, rfl, ?_, ?_, ?_⟩ ?_
  all_goals first | rfl | skip
  rintro m s ⟨i, ⟨h1, rfl, h3⟩, hL, hT, k0, k1, k5⟩
  obtain ⟨env, st0⟩ := s; obtain ⟨J, hJ⟩ := listJ hL; rw [show (List.range 69).map J = J 0 :: J 1 :: J 2 :: J 3 :: J 4 :: J 5 :: J 6 :: J 7 :: J 8 :: J 9 :: J 10 :: J 11 :: J 12 :: J 13 :: J 14 :: J 15 :: J 16 :: J 17 :: J 18 :: J 19 :: J 20 :: J 21 :: J 22 :: J 23 :: J 24 :: J 25 :: J 26 :: J 27 :: J 28 :: J 29 :: J 30 :: J 31 :: J 32 :: J 33 :: J 34 :: J 35 :: J 36 :: J 37 :: J 38 :: J 39 :: J 40 :: J 41 :: J 42 :: J 43 :: J 44 :: J 45 :: J 46 :: J 47 :: J 48 :: J 49 :: J 50 :: J 51 :: J 52 :: J 53 :: J 54 :: J 55 :: J 56 :: J 57 :: J 58 :: J 59 :: J 60 :: J 61 :: J 62 :: J 63 :: J 64 :: J 65 :: J 66 :: J 67 :: J 68 :: [] from by kernel_rfl] at hJ; replace k0 := Option.some.inj ((congrArg (·[0]?) hJ).symm.trans k0); replace k1 := Option.some.inj ((congrArg (·[1]?) hJ).symm.trans k1); replace k5 := Option.some.inj ((congrArg (·[5]?) hJ).symm.trans k5); rw [k0, k1, k5] at hJ; dsimp only at hJ hT; subst hJ; replace hT := hT.symm; subst hT; clear hL k0 k1 k5
  by_cases hb : i < cost.length
  · by_cases d1 : cost[i] < 0
    · rw [all_false (f := costP) hb (by simp [costP]; omega)]
      (try refine go ⟨?_⟩)
      refine ⟨by first | exact .inr rfl | exact .inl rfl, .inl ⟨[], _, (by dsimp only [Tryd.f46]; exact sv), ?_, by simp⟩⟩
      rfl
    by_cases d2 : cost[i] > 1048576
    · rw [all_false (f := costP) hb (by simp [costP]; omega)]
      (try refine go ⟨?_⟩)
      refine ⟨by first | exact .inr rfl | exact .inl rfl, .inl ⟨[], _, (by dsimp only [Tryd.f46]; exact sv), ?_, by simp⟩⟩
      rfl
    have hn := all_take (f := costP) hb h3 (by simp [costP]; omega)
    (try refine go ⟨?_⟩)
    refine ⟨_, _, ?_, .refl _, i + 1, ⟨by omega, rfl, hn⟩, rfl, rfl, ?_, ?_, ?_⟩
    · omega
    all_goals rfl
  rw [List.take_of_length_le (by omega)] at h3
  rw [h3]
  simp only [Bool.true_and]
  (try refine go ⟨?_⟩)
  refine c_loop (fun m s => ∃ (i : Nat), (i ≤ rows.length ∧ m = rows.length - i ∧ ((rows.take i).all fun r => r.all (testP cost.length)) = true) ∧ (s.env.length = 69 ∧ s.sto = sto ∧ s.env[0]? = some (.v (LLI rows)) ∧ s.env[1]? = some (.v (LI cost)) ∧ s.env[6]? = some (.v (VI i)))) (.refl _) ⟨0, ⟨by omega, rfl, by simp⟩, rfl, rfl, ?_, ?_, ?_⟩ ?_
  all_goals first | rfl | skip
  clear hb h1 h3 i
  rintro m s ⟨i, ⟨h1, rfl, h3⟩, hL, hT, k0, k1, k6⟩
  obtain ⟨env, st0⟩ := s; obtain ⟨J, hJ⟩ := listJ hL; rw [show (List.range 69).map J = J 0 :: J 1 :: J 2 :: J 3 :: J 4 :: J 5 :: J 6 :: J 7 :: J 8 :: J 9 :: J 10 :: J 11 :: J 12 :: J 13 :: J 14 :: J 15 :: J 16 :: J 17 :: J 18 :: J 19 :: J 20 :: J 21 :: J 22 :: J 23 :: J 24 :: J 25 :: J 26 :: J 27 :: J 28 :: J 29 :: J 30 :: J 31 :: J 32 :: J 33 :: J 34 :: J 35 :: J 36 :: J 37 :: J 38 :: J 39 :: J 40 :: J 41 :: J 42 :: J 43 :: J 44 :: J 45 :: J 46 :: J 47 :: J 48 :: J 49 :: J 50 :: J 51 :: J 52 :: J 53 :: J 54 :: J 55 :: J 56 :: J 57 :: J 58 :: J 59 :: J 60 :: J 61 :: J 62 :: J 63 :: J 64 :: J 65 :: J 66 :: J 67 :: J 68 :: [] from by kernel_rfl] at hJ; replace k0 := Option.some.inj ((congrArg (·[0]?) hJ).symm.trans k0); replace k1 := Option.some.inj ((congrArg (·[1]?) hJ).symm.trans k1); replace k6 := Option.some.inj ((congrArg (·[6]?) hJ).symm.trans k6); rw [k0, k1, k6] at hJ; dsimp only at hJ hT; subst hJ; replace hT := hT.symm; subst hT; clear hL k0 k1 k6
  by_cases hb : i < rows.length
  · have hri := hrr rows[i] (List.getElem_mem hb)
    (try refine go ⟨?_⟩)
    refine c_loop (fun m s => ∃ (k : Nat), (k ≤ rows[i].length ∧ m = rows[i].length - k ∧ (rows[i].take k).all (testP cost.length) = true) ∧ (s.env.length = 69 ∧ s.sto = sto ∧ s.env[0]? = some (.v (LLI rows)) ∧ s.env[1]? = some (.v (LI cost)) ∧ s.env[6]? = some (.v (VI i)) ∧ s.env[7]? = some (.v (VI k)))) (.refl _) ⟨0, ⟨by omega, rfl, by simp⟩, rfl, rfl, ?_, ?_, ?_, ?_⟩ ?_
    all_goals first | rfl | skip
    rintro m s ⟨k, ⟨g1, rfl, g3⟩, hL, hT, k0, k1, k6, k7⟩
    obtain ⟨env, st0⟩ := s; obtain ⟨J, hJ⟩ := listJ hL; rw [show (List.range 69).map J = J 0 :: J 1 :: J 2 :: J 3 :: J 4 :: J 5 :: J 6 :: J 7 :: J 8 :: J 9 :: J 10 :: J 11 :: J 12 :: J 13 :: J 14 :: J 15 :: J 16 :: J 17 :: J 18 :: J 19 :: J 20 :: J 21 :: J 22 :: J 23 :: J 24 :: J 25 :: J 26 :: J 27 :: J 28 :: J 29 :: J 30 :: J 31 :: J 32 :: J 33 :: J 34 :: J 35 :: J 36 :: J 37 :: J 38 :: J 39 :: J 40 :: J 41 :: J 42 :: J 43 :: J 44 :: J 45 :: J 46 :: J 47 :: J 48 :: J 49 :: J 50 :: J 51 :: J 52 :: J 53 :: J 54 :: J 55 :: J 56 :: J 57 :: J 58 :: J 59 :: J 60 :: J 61 :: J 62 :: J 63 :: J 64 :: J 65 :: J 66 :: J 67 :: J 68 :: [] from by kernel_rfl] at hJ; replace k0 := Option.some.inj ((congrArg (·[0]?) hJ).symm.trans k0); replace k1 := Option.some.inj ((congrArg (·[1]?) hJ).symm.trans k1); replace k6 := Option.some.inj ((congrArg (·[6]?) hJ).symm.trans k6); replace k7 := Option.some.inj ((congrArg (·[7]?) hJ).symm.trans k7); rw [k0, k1, k6, k7] at hJ; dsimp only at hJ hT; subst hJ; replace hT := hT.symm; subst hT; clear hL k0 k1 k6 k7
    by_cases hk : k < rows[i].length
    · by_cases d1 : rows[i][k] < 0
      · rw [all_false (f := fun r : List Int => r.all (testP cost.length)) hb (all_false (f := testP cost.length) hk (by simp [testP]; omega))]
        (try refine go ⟨?_⟩)
        refine ⟨by first | exact .inr rfl | exact .inl rfl, .inl ⟨[], _, (by dsimp only [Tryd.f46]; exact sv), ?_, by simp⟩⟩
        rfl
      by_cases d2 : rows[i][k] ≥ cost.length
      · rw [all_false (f := fun r : List Int => r.all (testP cost.length)) hb (all_false (f := testP cost.length) hk (by simp [testP]; omega))]
        (try refine go ⟨?_⟩)
        refine ⟨by first | exact .inr rfl | exact .inl rfl, .inl ⟨[], _, (by dsimp only [Tryd.f46]; exact sv), ?_, by simp⟩⟩
        rfl
      have hn := all_take (f := testP cost.length) hk g3 (by simp [testP]; omega)
      (try refine go ⟨?_⟩)
      refine ⟨_, _, ?_, .refl _, k + 1, ⟨by omega, rfl, hn⟩, rfl, rfl, ?_, ?_, ?_, ?_⟩
      · omega
      all_goals rfl
    · rw [List.take_of_length_le (by omega)] at g3
      have hn := all_take (f := fun r : List Int => r.all (testP cost.length)) hb h3 g3
      (try refine go ⟨?_⟩)
      refine ⟨_, _, ?_, .refl _, i + 1, ⟨by omega, rfl, hn⟩, rfl, rfl, ?_, ?_, ?_⟩
      · omega
      all_goals rfl
  · rw [List.take_of_length_le (by omega)] at h3
    rw [h3]
    (try refine go ⟨?_⟩)
    refine ⟨by first | exact .inr rfl | exact .inl rfl, .inl ⟨[], _, (by dsimp only [Tryd.f46]; exact sv), ?_, by simp⟩⟩
    rfl
end Go.Proofs.YtgkhcjdpdgfdbaaDoor
namespace Go.Proofs.YtgkhcjdpdgfdbaaDoor
/-- Costs as they may be. -/
def CostOK (cost : List Int) : Prop := cost.length ≤ 16 ∧ ∀ c ∈ cost, 0 ≤ c ∧ c ≤ 1048576
def In (n : Nat) (ts : List Int) : Prop := ∀ t ∈ ts, 0 ≤ t ∧ t < n
theorem cAt_eq {cost : List Int} {t : Int} (h : t.toNat < cost.length) : cost[t.toNat] = cAt cost t := by simp [cAt, List.getD, h]
theorem cAt_bound {cost : List Int} (hc : CostOK cost) (t : Int) : 0 ≤ cAt cost t ∧ cAt cost t ≤ 1048576 := by
  by_cases h : t.toNat < cost.length
  · rw [← cAt_eq h]; exact hc.2 _ (List.getElem_mem h)
  · have : cAt cost t = 0 := by simp [cAt, List.getD, Nat.le_of_not_lt h]
    omega
theorem priceS_nil (cost : List Int) : priceS cost [] = 0 := rfl
theorem priceS_cons (cost : List Int) (t : Int) (ts : List Int) : priceS cost (t :: ts) = cAt cost t + priceS cost ts := by simp [priceS]
theorem priceS_append (cost a b : List Int) : priceS cost (a ++ b) = priceS cost a + priceS cost b := by simp [priceS]
theorem priceS_bound {cost : List Int} (hc : CostOK cost) : ∀ ts : List Int, 0 ≤ priceS cost ts ∧ priceS cost ts ≤ ts.length * 1048576
  | [] => by simp [priceS]
  | t :: ts => by
    have h1 := cAt_bound hc t
    have h2 := priceS_bound hc ts
    rw [priceS_cons, List.length_cons]
    omega
theorem cheapS_bound {cost : List Int} (hc : CostOK cost) (ts : List Int) : 0 ≤ cheapS cost ts ∧ cheapS cost ts ≤ 1048576 := by
  have key : ∀ (ts : List Int) (n : Int), 0 ≤ n ∧ n ≤ 1048576 → 0 ≤ ts.foldl (fun n t => min n (cAt cost t)) n ∧ ts.foldl (fun n t => min n (cAt cost t)) n ≤ 1048576 := by
    intro ts
    induction ts with
    | nil => intro n h; exact h
    | cons t ts ih => intro n h; have := cAt_bound hc t; exact ih _ (by show 0 ≤ min n (cAt cost t) ∧ min n (cAt cost t) ≤ 1048576; omega)
  exact key ts _ (by omega)
theorem mem_take_in {n i : Nat} {ts : List Int} (h : In n ts) : In n (ts.take i) := fun t ht => h t (List.mem_of_mem_take ht)
theorem drop_cons {α : Type} {l : List α} {i : Nat} (h : i < l.length) : l.drop i = l[i] :: l.drop (i + 1) := List.drop_eq_getElem_cons h
theorem subsetS_succ (n i : Nat) : subsetS n (i + 1) = subsetS n i ++ if n / 2 ^ i % 2 = 1 then [i] else [] := by
  rw [subsetS, List.range_succ, List.filter_append, ← subsetS]
  congr 1
  by_cases h : n / 2 ^ i % 2 = 1 <;> simp [Nat.testBit_eq_decide_div_mod_eq, h]
theorem subsetS_length (n i : Nat) : (subsetS n i).length ≤ i := by
  have := List.length_filter_le n.testBit (List.range i)
  rw [List.length_range] at this; exact this
/-- What stands before place i. -/
def lastI (ts : List Int) (i : Nat) : Int := if i = 0 then -1 else ts.getD (i - 1) 0
theorem lastI_succ {ts : List Int} {i : Nat} (h : i < ts.length) : lastI ts (i + 1) = ts[i] := by simp [lastI, h]
theorem incS_drop {n : Nat} {ts : List Int} {i : Nat} (h : i < ts.length) (a : Int) : incS n a (ts.drop i) = (decide (a < ts[i]) && decide (ts[i] < n) && incS n ts[i] (ts.drop (i + 1))) := by rw [drop_cons h, incS]
theorem lexS_drop {a b : List Int} {i : Nat} (ha : i < a.length) (hb : i < b.length) : lexS (a.drop i) (b.drop i) = if a[i] = b[i] then lexS (a.drop (i + 1)) (b.drop (i + 1)) else decide (a[i] < b[i]) := by rw [drop_cons ha, drop_cons hb, lexS]
theorem subsetS_in (n k : Nat) : In k (ints (subsetS n k)) := by
  intro t ht
  obtain ⟨j, hj, rfl⟩ := List.mem_map.1 ht
  have := List.mem_range.1 (List.mem_filter.1 hj).1
  omega
theorem cellsC_length (c : Crt) : (cellsC c).length = 3 := by cases c; rfl
@[go_sem] theorem cellsCs_length : ∀ l : List Crt, (cellsCs l).length = l.length * 3
  | [] => rfl
  | c :: cs => by rw [cellsCs, List.length_append, cellsC_length, cellsCs_length cs, List.length_cons]; omega
@[go_sem] theorem cellsCs_at : ∀ {l : List Crt} {i : Nat} (h : i < l.length), ((cellsCs l).drop (i * 3)).take 3 = cellsC l[i]
  | .mk r p k :: cs, 0, _ => by simp [cellsCs, cellsC]
  | .mk r p k :: cs, i + 1, h => by
    have := cellsCs_at (l := cs) (i := i) (by simpa using h)
    simp only [cellsCs, List.getElem_cons_succ]
    rw [← this, show (i + 1) * 3 = i * 3 + 1 + 1 + 1 from by omega]
    simp [cellsC]
theorem cszs_length : ∀ l : List Crt, l.length ≤ cszs l
  | [] => by simp [cszs]
  | c :: cs => by have := cszs_length cs; simp only [cszs, List.length_cons]; omega
theorem csz_get : ∀ {l : List Crt} {i : Nat} (h : i < l.length), csz l[i] < cszs l
  | c :: cs, 0, _ => by simp only [cszs, List.getElem_cons_zero]; omega
  | c :: cs, i + 1, h => by
    have := csz_get (l := cs) (i := i) (by simpa using h)
    simp only [cszs, List.getElem_cons_succ]; omega
theorem left_in {rows : List (List Int)} {ts : List Int} {i : Nat} (h : i ∈ leftS rows ts) : i < rows.length := List.mem_range.1 (List.mem_filter.1 h).1
theorem leftS_length (rows : List (List Int)) (ts : List Int) : (leftS rows ts).length ≤ rows.length := by
  have := List.length_filter_le (leftB rows ts) (List.range rows.length)
  rw [List.length_range] at this; exact this
theorem testsS_length (row : List Int) : (testsS row).length ≤ 16 := by
  have := List.length_filter_le (fun t : Nat => decide ((t : Int) ∈ row)) (List.range 16)
  rw [List.length_range] at this; exact this
end Go.Proofs.YtgkhcjdpdgfdbaaDoor
namespace Go.Proofs.YtgkhcjdpdgfdbaaDoor
def aroundS (n most : Int) : Int := (if n < 0 then -(n + 1) else n).tmod most
def atS (l : List Int) (i most : Int) : Int := if i < 0 ∨ i ≥ l.length then 0 else aroundS (l.getD i.toNat 0) most
def Big (x : Int) : Prop := -9223372036854775808 ≤ x ∧ x ≤ 9223372036854775807
theorem aroundS_bound {n most : Int} (hm : 0 < most) : 0 ≤ aroundS n most ∧ aroundS n most < most := by
  unfold aroundS
  rw [Int.tmod_eq_emod_of_nonneg (by split <;> omega)]
  exact ⟨Int.emod_nonneg _ (by omega), Int.emod_lt_of_pos _ hm⟩
theorem atS_bound {l : List Int} {i most : Int} (hm : 0 < most) : 0 ≤ atS l i most ∧ atS l i most < most := by
  unfold atS
  split
  · omega
  · exact aroundS_bound hm
def costAt (l : List Int) (i : Nat) : Int := if atS l ((i : Int) + 1) 12 = 11 then atS l ((i : Int) + 2) 1048577 else atS l ((i : Int) + 1) 12
def costsS (l : List Int) : List Int := (List.range (atS l 0 8).toNat).map (costAt l)
theorem costAt_bound (l : List Int) (i : Nat) : 0 ≤ costAt l i ∧ costAt l i ≤ 1048576 := by
  unfold costAt
  have h1 := atS_bound (l := l) (i := (i : Int) + 1) (most := 12) (by omega)
  have h2 := atS_bound (l := l) (i := (i : Int) + 2) (most := 1048577) (by omega)
  split <;> omega
theorem costsS_length (l : List Int) : (costsS l).length ≤ 7 := by
  have h1 := atS_bound (l := l) (i := 0) (most := 8) (by omega)
  simp [costsS]; omega
theorem costsS_ok (l : List Int) : CostOK (costsS l) := by
  refine ⟨by have := costsS_length l; omega, fun c hc => ?_⟩
  obtain ⟨i, _, rfl⟩ := List.mem_map.1 hc
  exact costAt_bound l i
def rowG (l : List Int) (tests : Int) (a many : Nat) : List Int := if 0 < tests then (List.range many).map (fun k : Nat => atS l ((a + k : Nat) : Int) tests) else []
def rowsG (l : List Int) (tests : Int) : Nat → Nat → List (List Int)
  | 0, _ => []
  | n + 1, a => rowG l tests (a + 1) (atS l (a : Int) 5).toNat :: rowsG l tests n (a + 1 + (if 0 < tests then (atS l (a : Int) 5).toNat else 0))
def rowsS (l : List Int) (tests : Int) : List (List Int) := rowsG l tests (atS l 0 10).toNat 1
end Go.Proofs.YtgkhcjdpdgfdbaaDoor
namespace Go.Proofs.YtgkhcjdpdgfdbaaDoor
open Go Go.ChangeShapes Go.WideShapes Go.ChangeAt Go.RowKit
theorem tab_cells {W : World} {name : String} {g T n fuel : Nat} {cs : Array Value} {p : List MemPlace} (tbl : List Nat) (hg : Tryd.prog.globalNamed name = some g) (hu : Tryd.prog.underlying T = some (.array n 5)) (hc1 : Tryd.prog.cellsOf T = n) (hn : tbl.length = n) (hn0 : 0 < n)
    (hv : W.var? Tryd.prog name = some cs) (hd : DataW.trod (fun _ => ()) Tryd.prog W 0 (fun _ => true) false fuel T cs.toList = some (.agg (tbl.map fun x : Nat => .lit (.int .u8 x)), p)) :
    ∃ us : Nat → Value, (∀ j, j < (bytesV tbl).length → g < W.heap.size ∧ (us j).oneCell' = true ∧ W.cell? ⟨g, j, none⟩ = some (us j)) ∧ ∀ (j : Nat) (c : V), (bytesV tbl)[j]? = some c → RepV (fun b _ => b < W.heap.size) W (us j) c := by
  obtain ⟨xs, m, rfl, hx, hl, hxn, hel⟩ := DataW.trod_array hu hd
  rw [hc1] at hl
  have ce : Tryd.prog.cellsOf 5 = 1 := by kernel_rfl
  rw [ce] at hel
  have hcell := World.var?_cell hg hv
  have hsz : g < W.heap.size := by
    have h0 := hcell 0
    have : (W.cell? ⟨g, 0, none⟩).isSome := by rw [h0]; simp; simp at hl; omega
    rcases Nat.lt_or_ge g W.heap.size with h | h
    · exact h
    · simp [World.cell?, Array.getElem?_eq_none h] at this
  have hx1 : xs.map (·.1) = tbl.map fun x : Nat => (.lit (.int .u8 x) : DataW Unit) := by
    have := (Prod.mk.inj hx).1; simpa using this.symm
  have key : ∀ j (hj : j < tbl.length), cs[j]? = some (.int .u8 (tbl[j] : Nat)) := by
    intro j hj
    have h1 := hel j (by omega)
    have h2 : (xs.map (·.1))[j]? = some (.lit (.int .u8 (tbl[j] : Nat))) := by rw [hx1]; simp [hj]
    rw [List.getElem?_map] at h2
    cases hxi : xs[j]? with
    | none => rw [hxi] at h2; simp at h2
    | some y =>
      rw [hxi] at h1 h2
      simp only [Option.map_some, Option.some.injEq] at h2
      obtain ⟨y1, y2⟩ := y
      simp only at h2
      subst h2
      obtain ⟨v, hv1, hv2, _⟩ := DataW.trod_int Tryd.underlying5 h1
      simp only [Prod.mk.injEq, DataW.lit.injEq, Lit.int.injEq, true_and] at hv2
      have h3 : (cs.toList.drop (j * 1))[0]? = some (.int .u8 v) := by
        have := congrArg (·[0]?) hv1
        simpa [List.getElem?_take] using this
      rw [List.getElem?_drop, Array.getElem?_toList] at h3
      rw [show j * 1 + 0 = j from by omega] at h3
      rw [h3, hv2.1]
  refine ⟨fun j => .int .u8 (tbl.getD j 0 : Nat), fun j hj => ⟨hsz, rfl, ?_⟩, fun j c hc => ?_⟩
  · have hj' : j < tbl.length := by simpa [bytesV] using hj
    rw [hcell j, key j hj']
    simp [List.getD, hj']
  · have hj' : j < tbl.length := by
      have := (List.getElem?_eq_some_iff.1 hc).1
      simpa [bytesV] using this
    have : c = .int .u8 (tbl.getD j 0 : Nat) := by
      simp [bytesV, hj'] at hc
      rw [← hc]; simp [List.getD, hj']
    rw [this]
    exact .int _ _
theorem glob_of_laid {W : World} (h : laidMetH Tryd.prog Rows.suiteRowsRow.laid W) : GlobOK (fun b _ => b < W.heap.size) W := by
  rw [Go.MakeChecks.laidMetH_plain _ _ _ (by kernel_rfl)] at h
  obtain ⟨ps, ⟨g1, t1, c1, f1, p1, q1, hg1, ht1, hv1, hd1, ⟨g2, t2, c2, f2, p2, q2, hg2, ht2, hv2, hd2, _⟩, _⟩, _⟩ := h
  obtain rfl := Option.some.inj ((show Tryd.prog.globalNamed "math/bits.deBruijn32tab" = some 0 by kernel_rfl).symm.trans hg1)
  obtain rfl := Option.some.inj ((show Tryd.prog.globalNamed "math/bits.deBruijn64tab" = some 1 by kernel_rfl).symm.trans hg2)
  obtain rfl := Option.some.inj ((show (Tryd.prog.globals[0]?).map (·.type) = some 115 by kernel_rfl).symm.trans ht1)
  obtain rfl := Option.some.inj ((show (Tryd.prog.globals[1]?).map (·.type) = some 116 by kernel_rfl).symm.trans ht2)
  intro g cs hm
  rcases List.mem_cons.1 hm with e | hm
  · obtain ⟨rfl, rfl⟩ := Prod.mk.inj e
    exact tab_cells Lib.deBruijn32tab hg1 Tryd.underlying115 (by kernel_rfl) rfl (by omega) hv1 hd1
  · rcases List.mem_cons.1 hm with e | hm
    · obtain ⟨rfl, rfl⟩ := Prod.mk.inj e
      exact tab_cells Lib.deBruijn64tab hg2 Tryd.underlying116 (by kernel_rfl) rfl (by omega) hv2 hd2
    · cases hm
theorem rep_int {w : World} (x : Int) : RepV (fun b _ => b < w.heap.size) w (.int .i64 x) (VI x) := .int _ _
theorem rep_ints {w : World} {v : Value} {xs : List Int} (h : RdL (IntV .i64) w v xs) : RepV (fun b _ => b < w.heap.size) w v (LI xs) := by
  obtain ⟨a, cap, rfl, ⟨h1, h1'⟩, h2, h3⟩ := h
  rcases Nat.eq_zero_or_pos xs.length with h0 | h0
  · obtain rfl := List.eq_nil_of_length_eq_zero h0
    exact .sl0 _ _ _ h1 h2 h1'
  · obtain ⟨b, off, u, rfl, hb, _⟩ := h3 0 h0
    refine .sl b off xs.length cap (fun j => .int .i64 (xs.getD j 0)) (xs.map VI) h1 h2 (fun j hj => ?_) fun j c hc => ?_
    · have hj' : j < xs.length := by simpa using hj
      obtain ⟨b', off', u', he, hb', hc', hu'⟩ := h3 j hj'
      simp only [Option.some.injEq, Addr.mk.injEq, and_true] at he
      obtain ⟨rfl, rfl⟩ := he
      refine ⟨hb', rfl, ?_⟩
      rw [hc', show u' = .int .i64 xs[j] from hu']
      simp [List.getD, hj']
    · have hj' : j < xs.length := by simpa using (List.getElem?_eq_some_iff.1 hc).1
      have : c = VI (xs.getD j 0) := by
        simp [hj'] at hc
        rw [← hc]; simp [List.getD, hj']
      rw [this]
      exact .int _ _
theorem rd_len {α : Type} {R : World → Value → α → Prop} {w : World} {v : Value} {xs : List α} (h : RdL R w v xs) : xs.length < 9223372036854775808 := by
  obtain ⟨a, cap, rfl, ⟨h1, h1'⟩, h2, h3⟩ := h
  have h4 : xs.length ≤ maxLen := Nat.le_trans h1 h2
  unfold maxLen at h4
  omega
theorem big_of {x : Int} (h : I64 x) : Big x := h
/-- From a law's contract to what the row asks. -/
theorem law_calls {B : CallP} (hB : ∀ f args sto lo r sto', B f args sto lo r sto' → CallOK Tryd.prog f args sto lo r sto') {f : FuncId} {xs : List V} {vals : List Value} {w : World} (h : CallEv Tryd.prog tab B f (xs.map .v) [] 0 (.v (.bool true)) []) (hgl : GlobOK (fun b _ => b < w.heap.size) w) (hv : Pw (RepV (fun b _ => b < w.heap.size) w) vals xs) :
    Calls Tryd.prog f vals.toArray w fun e w' => e = .returned (.bool true) ∧ Below w.heap.size w w' := by
  refine (call_plain tab_ok (by kernel_rfl) hB h hgl hv).mono fun e w' ⟨v, S', h1, h2, h3⟩ => ?_
  cases h2
  exact ⟨h1, h3⟩
end Go.Proofs.YtgkhcjdpdgfdbaaDoor
namespace Go.Proofs.YtgkhcjdpdgfdbaaDoor
abbrev bitsN (b : Nat) : List Nat := subsetS b 64
theorem mem_bitsN {b j : Nat} : j ∈ bitsN b ↔ j < 64 ∧ b.testBit j = true := by
  simp [bitsN, subsetS]
/-- The lowest bit is struck. -/
theorem bits_pred {k m j : Nat} : ((2 ^ k * (2 * m + 1)) &&& (2 ^ k * (2 * m + 1) - 1)).testBit j = ((2 ^ k * (2 * m + 1)).testBit j && decide (j ≠ k)) := by
  have hp : 0 < 2 ^ k := Nat.two_pow_pos k
  have e : 2 ^ k * (2 * m + 1) - 1 = 2 ^ k * (2 * m) + (2 ^ k - 1) := by rw [Nat.mul_add]; omega
  have h1 : (2 ^ k * (2 * m + 1)).testBit j = if j < k then false else (2 * m + 1).testBit (j - k) := by
    have := Nat.testBit_two_pow_mul_add (2 * m + 1) (b := 0) (i := k) hp j
    simpa using this
  rw [Nat.testBit_and, e, Nat.testBit_two_pow_mul_add _ (by omega), h1]
  by_cases hj : j < k
  · simp [hj]
  · rw [if_neg hj, if_neg hj]
    by_cases hjk : j = k
    · subst hjk
      simp
    · obtain ⟨i, rfl⟩ : ∃ i, j = k + (i + 1) := ⟨j - k - 1, by omega⟩
      rw [show k + (i + 1) - k = i + 1 from by omega, Nat.testBit_succ, Nat.testBit_succ, show (2 * m + 1) / 2 = m from by omega, show 2 * m / 2 = m from by omega]
      simp
theorem ctz_form {b : Nat} (h0 : b ≠ 0) (hb : b < 18446744073709551616) : ∃ m, b = 2 ^ Lib.ctz 64 b * (2 * m + 1) ∧ Lib.ctz 64 b < 64 := by
  rw [Lib.ctz, if_neg h0]
  exact Lib.ctzFrom_spec 64 b (by omega) hb
theorem and_pred_bit {b : Nat} (h0 : b ≠ 0) (hb : b < 18446744073709551616) (j : Nat) : (b &&& (b - 1)).testBit j = (b.testBit j && decide (j ≠ Lib.ctz 64 b)) := by
  obtain ⟨m, hm, _⟩ := ctz_form h0 hb
  have := bits_pred (k := Lib.ctz 64 b) (m := m) (j := j)
  rwa [← hm] at this
theorem low_bit {b : Nat} (h0 : b ≠ 0) (hb : b < 18446744073709551616) : b.testBit (Lib.ctz 64 b) = true ∧ ∀ j, j < Lib.ctz 64 b → b.testBit j = false := by
  obtain ⟨m, hm, _⟩ := ctz_form h0 hb
  have h1 : ∀ j, b.testBit j = if j < Lib.ctz 64 b then false else (2 * m + 1).testBit (j - Lib.ctz 64 b) := by
    intro j
    have := Nat.testBit_two_pow_mul_add (2 * m + 1) (b := 0) (i := Lib.ctz 64 b) (Nat.two_pow_pos _) j
    rw [Nat.add_zero, ← hm] at this
    simpa using this
  refine ⟨?_, fun j hj => ?_⟩
  · rw [h1, if_neg (by omega), Nat.sub_self]; simp
  · rw [h1, if_pos hj]
theorem bits_step {b : Nat} (h0 : b ≠ 0) (hb : b < 18446744073709551616) : bitsN b = Lib.ctz 64 b :: bitsN (b &&& (b - 1)) := by
  obtain ⟨m, hm, hk⟩ := ctz_form h0 hb
  obtain ⟨l1, l2⟩ := low_bit h0 hb
  have hbit := and_pred_bit h0 hb
  generalize Lib.ctz 64 b = k at *
  have split : List.range 64 = List.range k ++ (k :: List.range' (k + 1) (63 - k)) := by
    rw [List.range_eq_range', List.range_eq_range', ← List.range'_succ, show 63 - k + 1 = 64 - k from by omega]
    have := @List.range'_append_1 0 k (64 - k)
    rw [Nat.zero_add] at this
    rw [this]
    congr 1
    omega
  have nil : ∀ (p : Nat → Bool), (∀ j, j < k → p j = false) → (List.range k).filter p = [] := by
    intro p hp
    rw [List.filter_eq_nil_iff]
    intro j hj
    rw [hp j (by simpa using hj)]
    simp
  unfold bitsN subsetS
  rw [split, List.filter_append, List.filter_append, nil _ l2, nil _ (fun j hj => by rw [hbit, l2 j hj]; rfl), List.nil_append, List.nil_append, List.filter_cons_of_pos l1, List.filter_cons_of_neg (by rw [hbit]; simp)]
  congr 1
  refine List.filter_congr fun j hj => ?_
  have : j ≠ k := by simp [List.mem_range'_1] at hj; omega
  rw [hbit]
  simp [this]
theorem and_pred_lt {b : Nat} (h0 : b ≠ 0) : b &&& (b - 1) < b := by
  have := Nat.and_le_right (n := b) (m := b - 1)
  omega
theorem bitsN_zero : bitsN 0 = [] := by simp [bitsN, subsetS]
theorem bitsN_small {b n : Nat} (hn : n ≤ 64) (hb : b < 2 ^ n) : bitsN b = subsetS b n := by
  unfold bitsN subsetS
  have split : List.range 64 = List.range n ++ List.range' n (64 - n) := by
    rw [List.range_eq_range', List.range_eq_range']
    have := @List.range'_append_1 0 n (64 - n)
    rw [Nat.zero_add] at this
    rw [this]
    congr 1
    omega
  rw [split, List.filter_append]
  have : (List.range' n (64 - n)).filter b.testBit = [] := by
    rw [List.filter_eq_nil_iff]
    intro j hj
    have hj' : n ≤ j := by simp [List.mem_range'_1] at hj; omega
    rw [Nat.testBit_lt_two_pow (Nat.lt_of_lt_of_le hb (Nat.pow_le_pow_right (by omega) hj'))]
    simp
  rw [this, List.append_nil]
/-- The set of a row's tests. -/
def maskS (row : List Int) : Nat := row.foldl (fun b t => b ||| 2 ^ t.toNat) 0
theorem mask_fold (j : Nat) : ∀ (row : List Int) (b : Nat), (∀ t ∈ row, 0 ≤ t) → (row.foldl (fun b t => b ||| 2 ^ t.toNat) b).testBit j = (b.testBit j || decide ((j : Int) ∈ row))
  | [], b, _ => by simp
  | t :: row, b, h => by
    rw [List.foldl_cons, mask_fold j row _ fun u hu => h u (by simp [hu]), Nat.testBit_or, Nat.testBit_two_pow]
    have ht := h t (by simp)
    have : decide (t.toNat = j) = decide ((j : Int) = t) := by
      congr 1
      rw [eq_iff_iff]
      omega
    rw [this, Bool.or_assoc]
    congr 1
    simp only [List.mem_cons, Bool.decide_or]
theorem mask_bit {row : List Int} (h : ∀ t ∈ row, 0 ≤ t) (j : Nat) : (maskS row).testBit j = decide ((j : Int) ∈ row) := by
  rw [maskS, mask_fold j row 0 h]; simp
theorem mask_lt {row : List Int} {n : Nat} (h : In n row) : maskS row < 2 ^ n := by
  apply Nat.lt_pow_two_of_testBit
  intro j hj
  rw [mask_bit fun t ht => (h t ht).1]
  simp only [decide_eq_false_iff_not]
  intro hm
  have := (h _ hm).2
  omega
theorem mask_zero {row : List Int} (h : ∀ t ∈ row, 0 ≤ t) : maskS row = 0 ↔ row = [] := by
  constructor
  · intro h0
    cases row with
    | nil => rfl
    | cons t row =>
      exfalso
      have h1 := mask_bit h t.toNat
      rw [h0] at h1
      have := h t (by simp)
      rw [show ((t.toNat : Nat) : Int) = t from by omega] at h1
      simp at h1
  · rintro rfl; rfl
theorem mask_meets {row : List Int} {n b : Nat} (h : In n row) (hn : n ≤ 64) : maskS row &&& b = 0 ↔ meetsS row (ints (bitsN b)) = false := by
  have hpos : ∀ t ∈ row, 0 ≤ t := fun t ht => (h t ht).1
  have key : meetsS row (ints (bitsN b)) = true ↔ ∃ j, (maskS row).testBit j = true ∧ b.testBit j = true := by
    unfold meetsS
    rw [List.any_eq_true]
    constructor
    · rintro ⟨t, ht, h2⟩
      rw [decide_eq_true_eq] at h2
      obtain ⟨j, hj, rfl⟩ := List.mem_map.1 h2
      exact ⟨j, by rw [mask_bit hpos]; simpa using ht, (mem_bitsN.1 hj).2⟩
    · rintro ⟨j, h1, h2⟩
      rw [mask_bit hpos, decide_eq_true_eq] at h1
      refine ⟨_, h1, ?_⟩
      rw [decide_eq_true_eq]
      have := (h _ h1).2
      exact List.mem_map.2 ⟨j, mem_bitsN.2 ⟨by omega, h2⟩, rfl⟩
  constructor
  · intro h0
    rw [← Bool.not_eq_true, key]
    rintro ⟨j, h1, h2⟩
    have : (maskS row &&& b).testBit j = true := by rw [Nat.testBit_and, h1, h2]; rfl
    rw [h0] at this
    simp at this
  · intro h0
    apply Nat.eq_of_testBit_eq
    intro j
    rw [Nat.testBit_and, Nat.zero_testBit]
    cases h1 : (maskS row).testBit j with
    | false => rfl
    | true =>
      cases h2 : b.testBit j with
      | false => rfl
      | true =>
        rw [← Bool.not_eq_true, key] at h0
        exact absurd ⟨j, h1, h2⟩ h0
theorem bits_mask {row : List Int} {n : Nat} (h : In n row) (hn : n ≤ 16) : bitsN (maskS row) = testsS row := by
  rw [bitsN_small (n := 16) (by omega) (Nat.lt_of_lt_of_le (mask_lt h) (Nat.pow_le_pow_right (by omega) hn))]
  unfold subsetS testsS
  refine List.filter_congr fun j _ => ?_
  rw [mask_bit fun t ht => (h t ht).1]
end Go.Proofs.YtgkhcjdpdgfdbaaDoor
namespace Go.Proofs.YtgkhcjdpdgfdbaaDoor
open Go Go.RowKit

attribute [local irreducible] EvOps EvC
set_option linter.unusedSimpArgs false
set_option linter.unusedVariables false
set_option maxRecDepth 100000
theorem refPrice_ev (ts cost : List Int) (hc : CostOK cost) (hts : In cost.length ts) (ht : ts.length < 1000000) (sto : Sto) (lo : Nat) (hlo : lo ≤ sto.length) : CallEv Tryd.prog tab B0 17 [.v (LI ts), .v (LI cost)] sto lo (.v (VI (priceS cost ts))) sto := by
  refine CallEv.intro ⟨_, _, [], Tryd.func17, rfl, by decide, ?_⟩; simp only [go_sem, Tryd.ntmps17]
  (try refine go ⟨?_⟩)
  refine c_loop (fun m s => ∃ (i : Nat) (acc : Int), (i ≤ ts.length ∧ m = ts.length - i ∧ acc = priceS cost (ts.take i)) ∧ (s.env.length = 23 ∧ s.sto = sto ∧ s.env[0]? = some (.v (LI ts)) ∧ s.env[1]? = some (.v (LI cost)) ∧ s.env[5]? = some (.v (VI acc)) ∧ s.env[6]? = some (.v (VI i)))) (.refl _) ⟨0, _, ⟨by omega, rfl, rfl⟩, rfl, rfl, ?_, ?_, ?_, ?_⟩ ?_
  all_goals first | rfl | skip
  rintro m s ⟨i, acc, ⟨h1, rfl, rfl⟩, hL, hT, k0, k1, k5, k6⟩
  obtain ⟨env, st0⟩ := s; obtain ⟨J, hJ⟩ := listJ hL; rw [show (List.range 23).map J = J 0 :: J 1 :: J 2 :: J 3 :: J 4 :: J 5 :: J 6 :: J 7 :: J 8 :: J 9 :: J 10 :: J 11 :: J 12 :: J 13 :: J 14 :: J 15 :: J 16 :: J 17 :: J 18 :: J 19 :: J 20 :: J 21 :: J 22 :: [] from by kernel_rfl] at hJ; replace k0 := Option.some.inj ((congrArg (·[0]?) hJ).symm.trans k0); replace k1 := Option.some.inj ((congrArg (·[1]?) hJ).symm.trans k1); replace k5 := Option.some.inj ((congrArg (·[5]?) hJ).symm.trans k5); replace k6 := Option.some.inj ((congrArg (·[6]?) hJ).symm.trans k6); rw [k0, k1, k5, k6] at hJ; dsimp only at hJ hT; subst hJ; replace hT := hT.symm; subst hT; clear hL k0 k1 k5 k6
  by_cases hb : i < ts.length
  · have h2 := hts ts[i] (List.getElem_mem hb)
    have h3 := priceS_bound hc (ts.take i)
    have h4 := cAt_bound hc ts[i]
    rw [List.length_take_of_le h1] at h3
    have h5 : priceS cost (ts.take (i + 1)) = priceS cost (ts.take i) + cAt cost ts[i] := by rw [take_succ hb, priceS_append, priceS_cons, priceS_nil]; omega
    have h6 := cAt_eq (cost := cost) (t := ts[i]) (by omega)
    (try refine go ⟨?_⟩)
    refine ⟨_, _, ?_, .refl _, i + 1, _, ⟨by omega, rfl, rfl⟩, rfl, rfl, ?_, ?_, ?_, ?_⟩
    · omega
    · rfl
    · rfl
    · rw [h5, h6]; rfl
    · rfl
  · (try refine go ⟨?_⟩)
    refine ⟨by first | exact .inr rfl | exact .inl rfl, .inl ⟨[], _, (by dsimp only [Tryd.f17]; exact sv), ?_, by simp⟩⟩
    rw [List.take_of_length_le (by omega)]
theorem refCheap_ev (ts cost : List Int) (hts : In cost.length ts) (ht : ts.length < 1000000) (sto : Sto) (lo : Nat) (hlo : lo ≤ sto.length) : CallEv Tryd.prog tab B0 63 [.v (LI ts), .v (LI cost)] sto lo (.v (VI (cheapS cost ts))) sto := by
  refine CallEv.intro ⟨_, _, [], Tryd.func63, rfl, by decide, ?_⟩; simp only [go_sem, Tryd.ntmps63]
  (try refine go ⟨?_⟩)
  refine c_loop (fun m s => ∃ (i : Nat) (acc : Int), (i ≤ ts.length ∧ m = ts.length - i ∧ acc = cheapS cost (ts.take i)) ∧ (s.env.length = 23 ∧ s.sto = sto ∧ s.env[0]? = some (.v (LI ts)) ∧ s.env[1]? = some (.v (LI cost)) ∧ s.env[5]? = some (.v (VI acc)) ∧ s.env[6]? = some (.v (VI i)))) (.refl _) ⟨0, _, ⟨by omega, rfl, rfl⟩, rfl, rfl, ?_, ?_, ?_, ?_⟩ ?_
  all_goals first | rfl | skip
  rintro m s ⟨i, acc, ⟨h1, rfl, rfl⟩, hL, hT, k0, k1, k5, k6⟩
  obtain ⟨env, st0⟩ := s; obtain ⟨J, hJ⟩ := listJ hL; rw [show (List.range 23).map J = J 0 :: J 1 :: J 2 :: J 3 :: J 4 :: J 5 :: J 6 :: J 7 :: J 8 :: J 9 :: J 10 :: J 11 :: J 12 :: J 13 :: J 14 :: J 15 :: J 16 :: J 17 :: J 18 :: J 19 :: J 20 :: J 21 :: J 22 :: [] from by kernel_rfl] at hJ; replace k0 := Option.some.inj ((congrArg (·[0]?) hJ).symm.trans k0); replace k1 := Option.some.inj ((congrArg (·[1]?) hJ).symm.trans k1); replace k5 := Option.some.inj ((congrArg (·[5]?) hJ).symm.trans k5); replace k6 := Option.some.inj ((congrArg (·[6]?) hJ).symm.trans k6); rw [k0, k1, k5, k6] at hJ; dsimp only at hJ hT; subst hJ; replace hT := hT.symm; subst hT; clear hL k0 k1 k5 k6
  by_cases hb : i < ts.length
  · have h2 := hts ts[i] (List.getElem_mem hb)
    have h5 : cheapS cost (ts.take (i + 1)) = min (cheapS cost (ts.take i)) (cAt cost ts[i]) := by rw [take_succ hb, cheapS, List.foldl_append]; rfl
    have h6 := cAt_eq (cost := cost) (t := ts[i]) (by omega)
    (try refine go ⟨?_⟩)
    refine ⟨_, _, ?_, .refl _, i + 1, _, ⟨by omega, rfl, rfl⟩, rfl, rfl, ?_, ?_, ?_, ?_⟩
    · omega
    · rfl
    · rfl
    · rw [h5, h6]; show some (D.v (VI _)) = some (D.v (VI _)); congr 3; omega
    · rfl
  · (try refine go ⟨?_⟩)
    refine ⟨by first | exact .inr rfl | exact .inl rfl, .inl ⟨[], _, (by dsimp only [Tryd.f63]; exact sv), ?_, by simp⟩⟩
    rw [List.take_of_length_le (by omega)]
theorem refTests_ev (row : List Int) (ht : row.length < 1000000) (sto : Sto) (lo : Nat) (hlo : lo ≤ sto.length) : CallEv Tryd.prog tab B0 44 [.v (LI row)] sto lo (.v (LI (ints (testsS row)))) sto := by
  refine CallEv.intro ⟨_, _, [], Tryd.func44, rfl, by decide, ?_⟩; simp only [go_sem, Tryd.ntmps44]
  (try refine go ⟨?_⟩)
  refine c_loop (fun m s => ∃ i n cs es, (i ≤ 16 ∧ m = 16 - i ∧ n = ((List.range i).filter fun t : Nat => decide ((t : Int) ∈ row)).length ∧ cs = (ints ((List.range i).filter fun t : Nat => decide ((t : Int) ∈ row))).map VI ∧ (es = none ∨ es = some (3, 1))) ∧ (s.env.length = 17 ∧ s.sto = sto ++ [.arr es false n cs] ∧ s.env[0]? = some (.v (LI row)) ∧ s.env[3]? = some (.arr sto.length n) ∧ s.env[4]? = some (.v (VI i)))) (.adopt _ 3 false rfl hlo) ⟨0, _, _, _, ⟨by omega, rfl, rfl, rfl, .inl rfl⟩, rfl, rfl, ?_, ?_, ?_⟩ ?_
  all_goals first | rfl | skip
  rintro m s ⟨i, n, cs, es, ⟨h1, rfl, rfl, rfl, h3⟩, hL, hT, k0, k3, k4⟩
  obtain ⟨env, st0⟩ := s; obtain ⟨J, hJ⟩ := listJ hL; rw [show (List.range 17).map J = J 0 :: J 1 :: J 2 :: J 3 :: J 4 :: J 5 :: J 6 :: J 7 :: J 8 :: J 9 :: J 10 :: J 11 :: J 12 :: J 13 :: J 14 :: J 15 :: J 16 :: [] from by kernel_rfl] at hJ; replace k0 := Option.some.inj ((congrArg (·[0]?) hJ).symm.trans k0); replace k3 := Option.some.inj ((congrArg (·[3]?) hJ).symm.trans k3); replace k4 := Option.some.inj ((congrArg (·[4]?) hJ).symm.trans k4); rw [k0, k3, k4] at hJ; dsimp only at hJ hT; subst hJ; replace hT := hT.symm; subst hT; clear hL k0 k3 k4
  have hn : ((List.range i).filter fun t : Nat => decide ((t : Int) ∈ row)).length ≤ i := by simpa using List.length_filter_le (fun t : Nat => decide ((t : Int) ∈ row)) (List.range i)
  by_cases hb : i < 16
  · (try refine go ⟨?_⟩)
    ((refine call ?_); (refine ⟨_, has_ev _ _ (by omega) _ _ (by first | omega | (simp; done) | (simp; omega)), ?_⟩); (try simp only [go_sem]))
    (try refine go ⟨?_⟩)
    cases hq : decide ((i : Int) ∈ row)
    · (try refine go ⟨?_⟩)
      refine ⟨_, _, ?_, .refl _, i + 1, _, _, _, ⟨by omega, rfl, ?_, ?_, h3⟩, rfl, rfl, ?_, ?_, ?_⟩
      · omega
      · rw [List.range_succ, List.filter_append]; simp [hq]
      · rw [List.range_succ, List.filter_append]; simp [hq]
      all_goals rfl
    · (try refine go ⟨?_⟩)
      refine ⟨_, _, ?_, .refl _, i + 1, _, _, _, ⟨by omega, rfl, ?_, ?_, .inr rfl⟩, rfl, rfl, ?_, ?_, ?_⟩
      · omega
      · rw [List.range_succ, List.filter_append]; simp [hq]
      · rw [List.range_succ, List.filter_append]; simp [hq]
      all_goals rfl
  · (try refine go ⟨?_⟩)
    refine ⟨by first | exact .inr rfl | exact .inl rfl, .inl ⟨[], _, (by dsimp only [Tryd.f44]; exact sv), ?_, by simp⟩⟩
    obtain rfl : i = 16 := by omega
    rw [LI_ints]; rfl
theorem refKills_ev (rows : List (List Int)) (left : List Nat) (t : Int) (hrr : ∀ r ∈ rows, r.length < 1000000) (hin : ∀ i ∈ left, i < rows.length) (hl : left.length < 1000000) (sto : Sto) (lo : Nat) (hlo : lo ≤ sto.length) : CallEv Tryd.prog tab B0 48 [.v (LLI rows), .v (LI (ints left)), .v (VI t)] sto lo (.v (VI (killsS rows left t))) sto := by
  refine CallEv.intro ⟨_, _, [], Tryd.func48, rfl, by decide, ?_⟩; simp only [go_sem, Tryd.ntmps48]
  (try refine go ⟨?_⟩)
  refine c_loop (fun m s => ∃ (i : Nat) (acc : Nat), (i ≤ left.length ∧ m = left.length - i ∧ acc = killsS rows (left.take i) t) ∧ (s.env.length = 27 ∧ s.sto = sto ∧ s.env[0]? = some (.v (LLI rows)) ∧ s.env[1]? = some (.v (LI (ints left))) ∧ s.env[2]? = some (.v (VI t)) ∧ s.env[7]? = some (.v (VI acc)) ∧ s.env[8]? = some (.v (VI i)))) (.refl _) ⟨0, _, ⟨by omega, rfl, rfl⟩, rfl, rfl, ?_, ?_, ?_, ?_, ?_⟩ ?_
  all_goals first | rfl | skip
  rintro m s ⟨i, acc, ⟨h1, rfl, rfl⟩, hL, hT, k0, k1, k2, k7, k8⟩
  obtain ⟨env, st0⟩ := s; obtain ⟨J, hJ⟩ := listJ hL; rw [show (List.range 27).map J = J 0 :: J 1 :: J 2 :: J 3 :: J 4 :: J 5 :: J 6 :: J 7 :: J 8 :: J 9 :: J 10 :: J 11 :: J 12 :: J 13 :: J 14 :: J 15 :: J 16 :: J 17 :: J 18 :: J 19 :: J 20 :: J 21 :: J 22 :: J 23 :: J 24 :: J 25 :: J 26 :: [] from by kernel_rfl] at hJ; replace k0 := Option.some.inj ((congrArg (·[0]?) hJ).symm.trans k0); replace k1 := Option.some.inj ((congrArg (·[1]?) hJ).symm.trans k1); replace k2 := Option.some.inj ((congrArg (·[2]?) hJ).symm.trans k2); replace k7 := Option.some.inj ((congrArg (·[7]?) hJ).symm.trans k7); replace k8 := Option.some.inj ((congrArg (·[8]?) hJ).symm.trans k8); rw [k0, k1, k2, k7, k8] at hJ; dsimp only at hJ hT; subst hJ; replace hT := hT.symm; subst hT; clear hL k0 k1 k2 k7 k8
  have hk : killsS rows (left.take i) t ≤ i := by
    have := List.countP_le_length (p := fun i => decide (t ∈ rows.getD i [])) (l := left.take i)
    rw [List.length_take_of_le h1] at this
    exact this
  by_cases hb : i < left.length
  · have h2 := hin left[i] (List.getElem_mem hb)
    have h3 := hrr rows[left[i]] (List.getElem_mem h2)
    have hg : rows.getD left[i] [] = rows[left[i]] := by simp [List.getD, h2]
    have h5 : killsS rows (left.take (i + 1)) t = killsS rows (left.take i) t + if t ∈ rows[left[i]] then 1 else 0 := by
      rw [take_succ hb, killsS, List.countP_append]; simp [List.countP_cons, hg, killsS, -List.getD_eq_getElem?_getD]
    have hi2 : (ints left).length = left.length := by simp
    (try refine go ⟨?_⟩)
    ((refine call ?_); (refine ⟨_, has_ev _ _ (by omega) _ _ (by first | omega | (simp; done) | (simp; omega)), ?_⟩); (try simp only [go_sem]))
    (try refine go ⟨?_⟩)
    by_cases hq : t ∈ rows[left[i]]
    · simp only [hq, decide_true, if_true] at h5 ⊢
      (try refine go ⟨?_⟩)
      refine ⟨_, _, ?_, .refl _, i + 1, _, ⟨by omega, rfl, rfl⟩, rfl, rfl, ?_, ?_, ?_, ?_, ?_⟩
      · omega
      all_goals first | rfl | (rw [h5]; rfl)
    · simp only [hq, decide_false, if_false] at h5 ⊢
      (try refine go ⟨?_⟩)
      refine ⟨_, _, ?_, .refl _, i + 1, _, ⟨by omega, rfl, rfl⟩, rfl, rfl, ?_, ?_, ?_, ?_, ?_⟩
      · omega
      all_goals first | rfl | (rw [h5]; rfl)
  · (try refine go ⟨?_⟩)
    refine ⟨by first | exact .inr rfl | exact .inl rfl, .inl ⟨[], _, (by dsimp only [Tryd.f48]; exact sv), ?_, by simp⟩⟩
    rw [List.take_of_length_le (by omega)]
end Go.Proofs.YtgkhcjdpdgfdbaaDoor
namespace Go.Proofs.YtgkhcjdpdgfdbaaDoor
open Go Go.RowKit

attribute [local irreducible] EvOps EvC
set_option linter.unusedSimpArgs false
set_option linter.unusedVariables false
set_option maxRecDepth 100000
set_option maxHeartbeats 2000000
theorem refSubset_ev (x many : Nat) (hx : x < 4611686018427387904) (hm : many < 1000000) (sto : Sto) (lo : Nat) (hlo : lo ≤ sto.length) : CallEv Tryd.prog tab B0 19 [.v (VI x), .v (VI many)] sto lo (.v (LI (ints (subsetS x many)))) sto := by
  refine CallEv.intro ⟨_, _, [], Tryd.func19, rfl, by decide, ?_⟩; simp only [go_sem, Tryd.ntmps19]
  (try refine go ⟨?_⟩)
  refine c_loop (fun m s => ∃ (i : Nat) (cur : Nat) (n : Nat) (cs : List V) (es : Option (TypeId × Nat)), (i ≤ many ∧ m = many - i ∧ cur = x / 2 ^ i ∧ n = (subsetS x i).length ∧ cs = (ints (subsetS x i)).map VI ∧ (es = none ∨ es = some (3, 1))) ∧ (s.env.length = 22 ∧ s.sto = sto ++ [.arr es false n cs] ∧ s.env[0]? = some (.v (VI cur)) ∧ s.env[1]? = some (.v (VI many)) ∧ s.env[5]? = some (.arr sto.length n) ∧ s.env[6]? = some (.v (VI i)))) (.adopt _ 5 false rfl hlo) ⟨0, x, _, _, _, ⟨by omega, rfl, by simp, rfl, rfl, .inl rfl⟩, rfl, rfl, ?_, ?_, ?_, ?_⟩ ?_
  all_goals first | rfl | skip
  rintro m s ⟨i, cur, n, cs, es, ⟨h1, rfl, hcur, rfl, rfl, h3⟩, hL, hT, k0, k1, k5, k6⟩
  obtain ⟨env, st0⟩ := s; obtain ⟨J, hJ⟩ := listJ hL; rw [show (List.range 22).map J = J 0 :: J 1 :: J 2 :: J 3 :: J 4 :: J 5 :: J 6 :: J 7 :: J 8 :: J 9 :: J 10 :: J 11 :: J 12 :: J 13 :: J 14 :: J 15 :: J 16 :: J 17 :: J 18 :: J 19 :: J 20 :: J 21 :: [] from by kernel_rfl] at hJ; replace k0 := Option.some.inj ((congrArg (·[0]?) hJ).symm.trans k0); replace k1 := Option.some.inj ((congrArg (·[1]?) hJ).symm.trans k1); replace k5 := Option.some.inj ((congrArg (·[5]?) hJ).symm.trans k5); replace k6 := Option.some.inj ((congrArg (·[6]?) hJ).symm.trans k6); rw [k0, k1, k5, k6] at hJ; dsimp only at hJ hT; subst hJ; replace hT := hT.symm; subst hT; clear hL k0 k1 k5 k6
  have hn := subsetS_length x i
  have hs := subsetS_succ x i
  rw [← hcur] at hs
  have hd : cur / 2 = x / 2 ^ (i + 1) := by rw [hcur, Nat.div_div_eq_div_mul, Nat.pow_succ]
  have hle : cur ≤ x := by rw [hcur]; exact Nat.div_le_self _ _
  by_cases hb : i < many
  · by_cases hq : cur % 2 = 1
    · rw [if_pos hq] at hs
      (try refine go ⟨?_⟩)
      refine ⟨_, _, ?_, .refl _, i + 1, cur / 2, _, _, _, ⟨by omega, rfl, hd, ?_, ?_, .inr rfl⟩, rfl, rfl, ?_, ?_, ?_, ?_⟩
      · omega
      · rw [hs]; simp
      · rw [hs]; simp
      all_goals rfl
    · rw [if_neg hq] at hs
      (try refine go ⟨?_⟩)
      refine ⟨_, _, ?_, .refl _, i + 1, cur / 2, _, _, _, ⟨by omega, rfl, hd, ?_, ?_, h3⟩, rfl, rfl, ?_, ?_, ?_, ?_⟩
      · omega
      · rw [hs]; simp
      · rw [hs]; simp
      all_goals rfl
  · (try refine go ⟨?_⟩)
    refine ⟨by first | exact .inr rfl | exact .inl rfl, .inl ⟨[], _, (by dsimp only [Tryd.f19]; exact sv), ?_, by simp⟩⟩
    obtain rfl : i = many := by omega
    rw [LI_ints]
theorem refSuite_ev (rows : List (List Int)) (cost ts : List Int) (hr : rows.length < 1000000) (hrr : ∀ r ∈ rows, r.length < 1000000) (hc : cost.length < 1000000) (ht : ts.length < 1000000) (sto : Sto) (lo : Nat) (hlo : lo ≤ sto.length) : CallEv Tryd.prog tab B0 29 [.v (LLI rows), .v (LI cost), .v (LI ts)] sto lo (.v (.bool (suiteS rows cost ts))) sto := by
  refine CallEv.intro ⟨_, _, [], Tryd.func29, rfl, by decide, ?_⟩; simp only [go_sem, Tryd.ntmps29]
  (try refine go ⟨?_⟩)
  refine c_loop (fun m s => ∃ (i : Nat), (i ≤ ts.length ∧ m = ts.length - i ∧ -1 ≤ lastI ts i ∧ (0 < i → 0 ≤ lastI ts i) ∧ incS cost.length (-1) ts = incS cost.length (lastI ts i) (ts.drop i)) ∧ (s.env.length = 50 ∧ s.sto = sto ∧ s.env[0]? = some (.v (LLI rows)) ∧ s.env[1]? = some (.v (LI cost)) ∧ s.env[2]? = some (.v (LI ts)) ∧ s.env[7]? = some (.v (VI i)))) (.refl _) ⟨0, ⟨by omega, rfl, by simp [lastI], by omega, rfl⟩, rfl, rfl, ?_, ?_, ?_, ?_⟩ ?_
  all_goals first | rfl | skip
  rintro m s ⟨i, ⟨h1, rfl, h2, h2', h3⟩, hL, hT, k0, k1, k2, k7⟩
  obtain ⟨env, st0⟩ := s; obtain ⟨J, hJ⟩ := listJ hL; rw [show (List.range 50).map J = J 0 :: J 1 :: J 2 :: J 3 :: J 4 :: J 5 :: J 6 :: J 7 :: J 8 :: J 9 :: J 10 :: J 11 :: J 12 :: J 13 :: J 14 :: J 15 :: J 16 :: J 17 :: J 18 :: J 19 :: J 20 :: J 21 :: J 22 :: J 23 :: J 24 :: J 25 :: J 26 :: J 27 :: J 28 :: J 29 :: J 30 :: J 31 :: J 32 :: J 33 :: J 34 :: J 35 :: J 36 :: J 37 :: J 38 :: J 39 :: J 40 :: J 41 :: J 42 :: J 43 :: J 44 :: J 45 :: J 46 :: J 47 :: J 48 :: J 49 :: [] from by kernel_rfl] at hJ; replace k0 := Option.some.inj ((congrArg (·[0]?) hJ).symm.trans k0); replace k1 := Option.some.inj ((congrArg (·[1]?) hJ).symm.trans k1); replace k2 := Option.some.inj ((congrArg (·[2]?) hJ).symm.trans k2); replace k7 := Option.some.inj ((congrArg (·[7]?) hJ).symm.trans k7); rw [k0, k1, k2, k7] at hJ; dsimp only at hJ hT; subst hJ; replace hT := hT.symm; subst hT; clear hL k0 k1 k2 k7
  by_cases hb : i < ts.length
  · rw [incS_drop hb] at h3
    have hls := lastI_succ hb
    by_cases c1 : ts[i] < 0
    · have hF : suiteS rows cost ts = false := by simp [suiteS, h3, show ¬ lastI ts i < ts[i] by omega]
      (try refine go ⟨?_⟩)
      refine ⟨by first | exact .inr rfl | exact .inl rfl, .inl ⟨[], _, (by dsimp only [Tryd.f29]; exact sv), ?_, by simp⟩⟩
      rw [hF]
    by_cases c2 : ts[i] ≥ cost.length
    · have hF : suiteS rows cost ts = false := by simp [suiteS, h3, show ¬ ts[i] < cost.length by omega]
      (try refine go ⟨?_⟩)
      refine ⟨by first | exact .inr rfl | exact .inl rfl, .inl ⟨[], _, (by dsimp only [Tryd.f29]; exact sv), ?_, by simp⟩⟩
      rw [hF]
    by_cases c3 : i = 0
    · subst c3
      (try refine go ⟨?_⟩)
      refine ⟨_, _, ?_, .refl _, 1, ⟨by omega, rfl, ?_, ?_, ?_⟩, rfl, rfl, ?_, ?_, ?_, ?_⟩
      · omega
      · rw [hls]; omega
      · rw [hls]; omega
      · rw [hls, h3]; simp [lastI, show (-1 : Int) < ts[0] by omega, show ts[0] < cost.length by omega]
      all_goals rfl
    · have hl : lastI ts i = ts[((i : Int) - 1).toNat]'(by omega) := by
        have : ((i : Int) - 1).toNat = i - 1 := by omega
        simp [lastI, c3, this, List.getD, show i - 1 < ts.length by omega]
      rw [hl] at h3 h2 h2'
      by_cases c4 : ts[i] ≤ ts[((i : Int) - 1).toNat]'(by omega)
      · have hF : suiteS rows cost ts = false := by
          rw [decide_eq_false (show ¬ ts[((i : Int) - 1).toNat]'(by omega) < ts[i] by omega)] at h3
          simp [suiteS, h3]
        (try refine go ⟨?_⟩)
        refine ⟨by first | exact .inr rfl | exact .inl rfl, .inl ⟨[], _, (by dsimp only [Tryd.f29]; exact sv), ?_, by simp⟩⟩
        rw [hF]
      · (try refine go ⟨?_⟩)
        refine ⟨_, _, ?_, .refl _, i + 1, ⟨by omega, rfl, ?_, ?_, ?_⟩, rfl, rfl, ?_, ?_, ?_, ?_⟩
        · omega
        · rw [hls]; omega
        · rw [hls]; omega
        · rw [hls, h3, decide_eq_true (show ts[((i : Int) - 1).toNat]'(by omega) < ts[i] by omega), decide_eq_true (show ts[i] < cost.length by omega)]; simp
        all_goals rfl
  · (try refine go ⟨?_⟩)
    ((refine call ?_); (refine ⟨_, refLeft_ev _ _ hr hrr (by omega) _ _ (by first | omega | (simp; done) | (simp; omega)), ?_⟩); (try simp only [go_sem]))
    (try refine go ⟨?_⟩)
    refine ⟨by first | exact .inr rfl | exact .inl rfl, .inl ⟨[], _, (by dsimp only [Tryd.f29]; exact sv), ?_, by simp⟩⟩
    rw [List.drop_of_length_le (by omega)] at h3
    simp only [suiteS, h3, incS]
    cases hL : leftS rows ts <;> simp
    omega
end Go.Proofs.YtgkhcjdpdgfdbaaDoor
namespace Go.Proofs.YtgkhcjdpdgfdbaaDoor
open Go Go.RowKit

attribute [local irreducible] EvOps EvC
set_option linter.unusedSimpArgs false
set_option linter.unusedVariables false
set_option maxRecDepth 100000
set_option maxHeartbeats 1000000
theorem refBefore_ev (a b cost : List Int) (hc : CostOK cost) (hia : In cost.length a) (hib : In cost.length b) (ha : a.length < 1000000) (hb' : b.length < 1000000) (sto : Sto) (lo : Nat) (hlo : lo ≤ sto.length) : CallEv Tryd.prog tab B0 42 [.v (LI a), .v (LI b), .v (LI cost)] sto lo (.v (.bool (beforeS a b cost))) sto := by
  refine CallEv.intro ⟨_, _, [], Tryd.func42, rfl, by decide, ?_⟩; simp only [go_sem, Tryd.ntmps42]
  have hpa := priceS_bound hc a
  have hpb := priceS_bound hc b
  (try refine go ⟨?_⟩)
  ((refine call ?_); (refine ⟨_, refPrice_ev _ _ hc hia ha _ _ (by first | omega | (simp; done) | (simp; omega)), ?_⟩); (try simp only [go_sem]))
  (try refine go ⟨?_⟩)
  ((refine call ?_); (refine ⟨_, refPrice_ev _ _ hc hib hb' _ _ (by first | omega | (simp; done) | (simp; omega)), ?_⟩); (try simp only [go_sem]))
  by_cases c1 : priceS cost a = priceS cost b
  · by_cases c2 : a.length = b.length
    · have hB : beforeS a b cost = lexS a b := by simp [beforeS, c1, c2]
      rw [hB]
      (try refine go ⟨?_⟩)
      refine c_loop (fun m s => ∃ (i : Nat), (i ≤ a.length ∧ m = a.length - i ∧ lexS a b = lexS (a.drop i) (b.drop i)) ∧ (s.env.length = 56 ∧ s.sto = sto ∧ s.env[0]? = some (.v (LI a)) ∧ s.env[1]? = some (.v (LI b)) ∧ s.env[9]? = some (.v (VI i)))) (.refl _) ⟨0, ⟨by omega, rfl, rfl⟩, rfl, rfl, ?_, ?_, ?_⟩ ?_
      all_goals first | rfl | skip
      rintro m s ⟨i, ⟨h1, rfl, h3⟩, hL, hT, k0, k1, k9⟩
      obtain ⟨env, st0⟩ := s; obtain ⟨J, hJ⟩ := listJ hL; rw [show (List.range 56).map J = J 0 :: J 1 :: J 2 :: J 3 :: J 4 :: J 5 :: J 6 :: J 7 :: J 8 :: J 9 :: J 10 :: J 11 :: J 12 :: J 13 :: J 14 :: J 15 :: J 16 :: J 17 :: J 18 :: J 19 :: J 20 :: J 21 :: J 22 :: J 23 :: J 24 :: J 25 :: J 26 :: J 27 :: J 28 :: J 29 :: J 30 :: J 31 :: J 32 :: J 33 :: J 34 :: J 35 :: J 36 :: J 37 :: J 38 :: J 39 :: J 40 :: J 41 :: J 42 :: J 43 :: J 44 :: J 45 :: J 46 :: J 47 :: J 48 :: J 49 :: J 50 :: J 51 :: J 52 :: J 53 :: J 54 :: J 55 :: [] from by kernel_rfl] at hJ; replace k0 := Option.some.inj ((congrArg (·[0]?) hJ).symm.trans k0); replace k1 := Option.some.inj ((congrArg (·[1]?) hJ).symm.trans k1); replace k9 := Option.some.inj ((congrArg (·[9]?) hJ).symm.trans k9); rw [k0, k1, k9] at hJ; dsimp only at hJ hT; subst hJ; replace hT := hT.symm; subst hT; clear hL k0 k1 k9
      by_cases hb : i < a.length
      · rw [lexS_drop hb (by omega)] at h3
        by_cases c3 : a[i] = b[i]
        · rw [if_pos c3] at h3
          (try refine go ⟨?_⟩)
          refine ⟨_, _, ?_, .refl _, i + 1, ⟨by omega, rfl, h3⟩, rfl, rfl, ?_, ?_, ?_⟩
          · omega
          all_goals rfl
        · rw [if_neg c3] at h3
          rw [h3]
          by_cases c4 : a[i] < b[i]
          · (try refine go ⟨?_⟩)
            refine ⟨by first | exact .inr rfl | exact .inl rfl, .inl ⟨[], _, (by dsimp only [Tryd.f42]; exact sv), ?_, by simp⟩⟩
            rw [decide_eq_true c4]
          · (try refine go ⟨?_⟩)
            refine ⟨by first | exact .inr rfl | exact .inl rfl, .inl ⟨[], _, (by dsimp only [Tryd.f42]; exact sv), ?_, by simp⟩⟩
            rw [decide_eq_false c4]
      · (try refine go ⟨?_⟩)
        refine ⟨by first | exact .inr rfl | exact .inl rfl, .inl ⟨[], _, (by dsimp only [Tryd.f42]; exact sv), ?_, by simp⟩⟩
        rw [h3, List.drop_of_length_le (by omega)]; rfl
    · have hB : beforeS a b cost = decide (a.length < b.length) := by simp [beforeS, c1, c2]
      rw [hB]
      by_cases c4 : a.length < b.length
      · (try refine go ⟨?_⟩)
        refine ⟨by first | exact .inr rfl | exact .inl rfl, .inl ⟨[], _, (by dsimp only [Tryd.f42]; exact sv), ?_, by simp⟩⟩
        rw [decide_eq_true c4]
      · (try refine go ⟨?_⟩)
        refine ⟨by first | exact .inr rfl | exact .inl rfl, .inl ⟨[], _, (by dsimp only [Tryd.f42]; exact sv), ?_, by simp⟩⟩
        rw [decide_eq_false c4]
  · have hB : beforeS a b cost = decide (priceS cost a < priceS cost b) := by simp [beforeS, c1]
    rw [hB]
    by_cases c4 : priceS cost a < priceS cost b
    · (try refine go ⟨?_⟩)
      refine ⟨by first | exact .inr rfl | exact .inl rfl, .inl ⟨[], _, (by dsimp only [Tryd.f42]; exact sv), ?_, by simp⟩⟩
      rw [decide_eq_true c4]
    · (try refine go ⟨?_⟩)
      refine ⟨by first | exact .inr rfl | exact .inl rfl, .inl ⟨[], _, (by dsimp only [Tryd.f42]; exact sv), ?_, by simp⟩⟩
      rw [decide_eq_false c4]
theorem refLeast_ev (rows : List (List Int)) (cost : List Int) (hr : rows.length < 1000000) (hrr : ∀ r ∈ rows, r.length < 1000000) (hc : CostOK cost) (sto : Sto) (lo : Nat) (hlo : lo ≤ sto.length) : CallEv Tryd.prog tab B0 15 [.v (LLI rows), .v (LI cost)] sto lo (.v (LI (leastS rows cost))) sto := by
  have hc1 := hc.1
  refine CallEv.intro ⟨_, _, [], Tryd.func15, rfl, by decide, ?_⟩; simp only [go_sem, Tryd.ntmps15]
  (try refine go ⟨?_⟩)
  refine c_loop (fun m s => ∃ (i p : Nat), (i ≤ cost.length ∧ m = cost.length - i ∧ p = 2 ^ i) ∧ (s.env.length = 44 ∧ s.sto = sto ∧ s.env[0]? = some (.v (LLI rows)) ∧ s.env[1]? = some (.v (LI cost)) ∧ s.env[5]? = some (.v (VI p)) ∧ s.env[6]? = some (.v (VI i)))) (.refl _) ⟨0, 1, ⟨by omega, rfl, rfl⟩, rfl, rfl, ?_, ?_, ?_, ?_⟩ ?_
  all_goals first | rfl | skip
  rintro m s ⟨i, p, ⟨h1, rfl, hp⟩, hL, hT, k0, k1, k5, k6⟩
  obtain ⟨env, st0⟩ := s; obtain ⟨J, hJ⟩ := listJ hL; rw [show (List.range 44).map J = J 0 :: J 1 :: J 2 :: J 3 :: J 4 :: J 5 :: J 6 :: J 7 :: J 8 :: J 9 :: J 10 :: J 11 :: J 12 :: J 13 :: J 14 :: J 15 :: J 16 :: J 17 :: J 18 :: J 19 :: J 20 :: J 21 :: J 22 :: J 23 :: J 24 :: J 25 :: J 26 :: J 27 :: J 28 :: J 29 :: J 30 :: J 31 :: J 32 :: J 33 :: J 34 :: J 35 :: J 36 :: J 37 :: J 38 :: J 39 :: J 40 :: J 41 :: J 42 :: J 43 :: [] from by kernel_rfl] at hJ; replace k0 := Option.some.inj ((congrArg (·[0]?) hJ).symm.trans k0); replace k1 := Option.some.inj ((congrArg (·[1]?) hJ).symm.trans k1); replace k5 := Option.some.inj ((congrArg (·[5]?) hJ).symm.trans k5); replace k6 := Option.some.inj ((congrArg (·[6]?) hJ).symm.trans k6); rw [k0, k1, k5, k6] at hJ; dsimp only at hJ hT; subst hJ; replace hT := hT.symm; subst hT; clear hL k0 k1 k5 k6
  have hp2 : p ≤ 65536 := by rw [hp]; exact Nat.le_trans (Nat.pow_le_pow_right (by decide) (show i ≤ 16 by omega)) (by decide)
  have hp0 : 0 < p := by rw [hp]; exact Nat.two_pow_pos i
  by_cases hb : i < cost.length
  · (try refine go ⟨?_⟩)
    refine ⟨_, _, ?_, .refl _, i + 1, p * 2, ⟨by omega, rfl, by rw [hp, Nat.pow_succ]⟩, rfl, rfl, ?_, ?_, ?_, ?_⟩
    · omega
    all_goals rfl
  obtain rfl : i = cost.length := by omega
  (try refine go ⟨?_⟩)
  rw [show ((p : Int) - 1) = ((p - 1 : Nat) : Int) from by omega]
  ((refine call ?_); (refine ⟨_, refSubset_ev (p - 1) cost.length (by omega) (by omega) _ _ (by first | omega | (simp; done) | (simp; omega)), ?_⟩); (try simp only [go_sem]))
  (try refine go ⟨?_⟩)
  refine c_loop (fun m s => ∃ (i : Nat) (best : List Int), (i ≤ p ∧ m = p - i ∧ In cost.length best ∧ best.length ≤ 16 ∧ best = (List.range i).foldl (fun best n => if suiteS rows cost (ints (subsetS n cost.length)) && beforeS (ints (subsetS n cost.length)) best cost then ints (subsetS n cost.length) else best) (ints (subsetS (p - 1) cost.length))) ∧ (s.env.length = 44 ∧ s.sto = sto ∧ s.env[0]? = some (.v (LLI rows)) ∧ s.env[1]? = some (.v (LI cost)) ∧ s.env[5]? = some (.v (VI p)) ∧ s.env[7]? = some (.v (LI best)) ∧ s.env[8]? = some (.v (VI i)))) (.refl _) ⟨0, _, ⟨by omega, rfl, subsetS_in _ _, ?_, rfl⟩, rfl, rfl, ?_, ?_, ?_, ?_, ?_⟩ ?_
  all_goals first | rfl | skip
  · have := subsetS_length (p - 1) cost.length
    simp; omega
  rintro m s ⟨i, best, ⟨h1, rfl, h2, h3, h4⟩, hL, hT, k0, k1, k5, k7, k8⟩
  obtain ⟨env, st0⟩ := s; obtain ⟨J, hJ⟩ := listJ hL; rw [show (List.range 44).map J = J 0 :: J 1 :: J 2 :: J 3 :: J 4 :: J 5 :: J 6 :: J 7 :: J 8 :: J 9 :: J 10 :: J 11 :: J 12 :: J 13 :: J 14 :: J 15 :: J 16 :: J 17 :: J 18 :: J 19 :: J 20 :: J 21 :: J 22 :: J 23 :: J 24 :: J 25 :: J 26 :: J 27 :: J 28 :: J 29 :: J 30 :: J 31 :: J 32 :: J 33 :: J 34 :: J 35 :: J 36 :: J 37 :: J 38 :: J 39 :: J 40 :: J 41 :: J 42 :: J 43 :: [] from by kernel_rfl] at hJ; replace k0 := Option.some.inj ((congrArg (·[0]?) hJ).symm.trans k0); replace k1 := Option.some.inj ((congrArg (·[1]?) hJ).symm.trans k1); replace k5 := Option.some.inj ((congrArg (·[5]?) hJ).symm.trans k5); replace k7 := Option.some.inj ((congrArg (·[7]?) hJ).symm.trans k7); replace k8 := Option.some.inj ((congrArg (·[8]?) hJ).symm.trans k8); rw [k0, k1, k5, k7, k8] at hJ; dsimp only at hJ hT; subst hJ; replace hT := hT.symm; subst hT; clear hL k0 k1 k5 k7 k8
  have hsl := subsetS_length i cost.length
  have hsl2 : (ints (subsetS i cost.length)).length ≤ cost.length := by simpa using hsl
  by_cases hb : i < p
  · (try refine go ⟨?_⟩)
    ((refine call ?_); (refine ⟨_, refSubset_ev i cost.length (by omega) (by omega) _ _ (by first | omega | (simp; done) | (simp; omega)), ?_⟩); (try simp only [go_sem]))
    (try refine go ⟨?_⟩)
    ((refine call ?_); (refine ⟨_, refSuite_ev rows cost (ints (subsetS i cost.length)) hr hrr (by omega) (by omega) _ _ (by first | omega | (simp; done) | (simp; omega)), ?_⟩); (try simp only [go_sem]))
    (try refine go ⟨?_⟩)
    cases hq : suiteS rows cost (ints (subsetS i cost.length))
    · (try refine go ⟨?_⟩)
      refine ⟨_, _, ?_, .refl _, i + 1, best, ⟨by omega, rfl, h2, h3, ?_⟩, rfl, rfl, ?_, ?_, ?_, ?_, ?_⟩
      · omega
      · rw [List.range_succ, List.foldl_append, ← h4]; simp [hq]
      all_goals rfl
    · (try refine go ⟨?_⟩)
      ((refine call ?_); (refine ⟨_, refBefore_ev (ints (subsetS i cost.length)) best cost hc (subsetS_in _ _) h2 (by omega) (by omega) _ _ (by first | omega | (simp; done) | (simp; omega)), ?_⟩); (try simp only [go_sem]))
      (try refine go ⟨?_⟩)
      cases hq2 : beforeS (ints (subsetS i cost.length)) best cost
      · (try refine go ⟨?_⟩)
        refine ⟨_, _, ?_, .refl _, i + 1, best, ⟨by omega, rfl, h2, h3, ?_⟩, rfl, rfl, ?_, ?_, ?_, ?_, ?_⟩
        · omega
        · rw [List.range_succ, List.foldl_append, ← h4]; simp [hq, hq2]
        all_goals rfl
      · (try refine go ⟨?_⟩)
        refine ⟨_, _, ?_, .refl _, i + 1, ints (subsetS i cost.length), ⟨by omega, rfl, subsetS_in _ _, by omega, ?_⟩, rfl, rfl, ?_, ?_, ?_, ?_, ?_⟩
        · omega
        · rw [List.range_succ, List.foldl_append, ← h4]; simp [hq, hq2]
        all_goals rfl
  · obtain rfl : i = p := by omega
    (try refine go ⟨?_⟩)
    refine ⟨by first | exact .inr rfl | exact .inl rfl, .inl ⟨[], _, (by dsimp only [Tryd.f15]; exact sv), ?_, by simp⟩⟩
    rw [h4, leastS, hp]
end Go.Proofs.YtgkhcjdpdgfdbaaDoor
namespace Go.Proofs.YtgkhcjdpdgfdbaaDoor
open Go Go.RowKit

attribute [local irreducible] EvOps EvC
attribute [local go_sem] List.flatten_cons List.flatten_nil
set_option linter.unusedSimpArgs false
set_option linter.unusedVariables false
set_option maxRecDepth 100000
set_option maxHeartbeats 20000000
theorem rowAt_eq {rows : List (List Int)} {i : Int} (h : i.toNat < rows.length) : rows[i.toNat] = rowAt rows i := by simp [rowAt, List.getD, h]
theorem packS_drop {rows : List (List Int)} {left p : List Int} {i : Nat} (h : i < p.length) : packS rows left (p.take i) (p.drop i) = (decide (p[i] ∈ left) && (if h : 0 < i then decide (p[i - 1] < p[i]) else true) && !((p.take i).any fun q => meetsS (rowAt rows p[i]) (rowAt rows q)) && packS rows left (p.take (i + 1)) (p.drop (i + 1))) := by
  rw [drop_cons h, packS, take_succ h]
  congr 3
  by_cases hi : 0 < i
  · have : (p.take i).getLast? = some p[i - 1] := by
      rw [List.getLast?_eq_getElem?, List.length_take_of_le (by omega), List.getElem?_take_of_lt (by omega), List.getElem?_eq_getElem (by omega)]
    simp [this, hi]
  · obtain rfl : i = 0 := by omega
    simp
theorem mem_left {rows : List (List Int)} {ts : List Int} {x : Int} (h : x ∈ ints (leftS rows ts)) : 0 ≤ x ∧ x.toNat < rows.length := by
  obtain ⟨j, hj, rfl⟩ := List.mem_map.1 h
  have := left_in hj
  omega
theorem rowAt_in {n : Nat} {rows : List (List Int)} (h : ∀ r ∈ rows, In n r) (i : Int) : In n (rowAt rows i) := by
  by_cases hi : i.toNat < rows.length
  · rw [← rowAt_eq hi]; exact h _ (List.getElem_mem hi)
  · have : rowAt rows i = [] := by simp [rowAt, List.getD, Nat.le_of_not_lt hi]
    rw [this]; intro t ht; cases ht
theorem testsS_in {n : Nat} {row : List Int} (h : In n row) : In n (ints (testsS row)) := by
  intro t ht
  obtain ⟨j, hj, rfl⟩ := List.mem_map.1 ht
  exact h _ (by simpa using (List.mem_filter.1 hj).2)
theorem showsL_drop {rows : List (List Int)} {cost : List Int} {bound : Int} {k : List Crt} {L ts : List Int} {i : Nat} (hk : i < k.length) (hl : i < L.length) : showsL rows cost bound (k.drop i) (L.drop i) ts = (showsS rows cost bound k[i] (ts ++ [L[i]]) && showsL rows cost bound (k.drop (i + 1)) (L.drop (i + 1)) ts) := by
  rw [drop_cons hk, drop_cons hl, showsL]
end Go.Proofs.YtgkhcjdpdgfdbaaDoor
namespace Go.Proofs.YtgkhcjdpdgfdbaaDoor
open Go Go.RowKit

attribute [local irreducible] EvOps EvC
attribute [local go_sem] List.flatten_cons List.flatten_nil
set_option linter.unusedSimpArgs false
set_option linter.unusedVariables false
set_option maxRecDepth 100000
set_option maxHeartbeats 20000000
theorem refShows_leaf (rows : List (List Int)) (cost : List Int) (bound : Int) (hr : rows.length < 1000000) (hrr : ∀ r ∈ rows, r.length < 1000000) (hc : CostOK cost) (hin : ∀ r ∈ rows, In cost.length r) (r : Int) (p : List Int) (k : List Crt) (hk : k.length = 0) (ts : List Int) (sto : Sto) (lo : Nat) (hlen' : ts.length + (1 + p.length + cszs k) < 1000000) (hts : In cost.length ts) (hlo : lo ≤ sto.length) : CallEv Tryd.prog tab B0 47 [.v (LLI rows), .v (LI cost), .v (CV (.mk r p k)), .v (LI ts), .v (VI bound)] sto lo (.v (.bool (showsS rows cost bound (.mk r p k) ts))) sto := by
  have hck := cszs_length k
  have hpr := priceS_bound hc ts
  have hll := leftS_length rows ts
  have hll2 : (ints (leftS rows ts)).length ≤ rows.length := by simpa using hll
  refine CallEv.intro ⟨_, _, [], Tryd.func47, rfl, by decide, ?_⟩; simp only [go_sem, Tryd.ntmps47]
  (try refine go ⟨?_⟩)
  ((refine call ?_); (refine ⟨_, refLeft_ev _ _ hr hrr (by omega) _ _ (by first | omega | (simp; done) | (simp; omega)), ?_⟩); (try simp only [go_sem]))
  have hS : showsS rows cost bound (.mk r p k) ts = (packS rows (ints (leftS rows ts)) [] p && decide (priceS cost ts + (p.map fun i => cheapS cost (rowAt rows i)).sum ≥ bound)) := by simp [showsS, hk]
  rw [hS]
  (try refine go ⟨?_⟩)
  ((refine call ?_); (refine ⟨_, refPrice_ev _ _ hc hts (by omega) _ _ (by first | omega | (simp; done) | (simp; omega)), ?_⟩); (try simp only [go_sem]))
  (try refine go ⟨?_⟩)
  refine c_loop (fun m s => ∃ (i : Nat) (acc : Int), (i ≤ p.length ∧ m = p.length - i ∧ acc = priceS cost ts + ((p.take i).map fun i => cheapS cost (rowAt rows i)).sum ∧ 0 ≤ acc ∧ acc ≤ (ts.length + i) * 1048576 ∧ (∀ q ∈ p.take i, q ∈ ints (leftS rows ts)) ∧ packS rows (ints (leftS rows ts)) [] p = packS rows (ints (leftS rows ts)) (p.take i) (p.drop i)) ∧ (s.env.length = 148 ∧ s.sto = sto ++ [.cells [.v (VI r), .v (LI p), .v (.sl k.length (cellsCs k))]] ∧ s.env[0]? = some (.v (LLI rows)) ∧ s.env[1]? = some (.v (LI cost)) ∧ s.env[3]? = some (.v (LI ts)) ∧ s.env[4]? = some (.v (VI bound)) ∧ s.env[7]? = some (.ptr sto.length 0) ∧ s.env[11]? = some (.v (LI (ints (leftS rows ts)))) ∧ s.env[12]? = some (.v (VI acc)) ∧ s.env[13]? = some (.v (VI i)))) (.refl _) ⟨0, priceS cost ts, ⟨by omega, rfl, by simp, by omega, by omega, by simp, rfl⟩, rfl, rfl, ?_, ?_, ?_, ?_, ?_, ?_, ?_, ?_⟩ ?_
  all_goals first | rfl | skip
  rintro m s ⟨i, acc, ⟨h1, rfl, hacc, ha1, ha2, hpl, h3⟩, hL, hT, k0, k1, k3, k4, k7, k11, k12, k13⟩
  obtain ⟨env, st0⟩ := s; obtain ⟨J, hJ⟩ := listJ hL; rw [show (List.range 148).map J = J 0 :: J 1 :: J 2 :: J 3 :: J 4 :: J 5 :: J 6 :: J 7 :: J 8 :: J 9 :: J 10 :: J 11 :: J 12 :: J 13 :: J 14 :: J 15 :: J 16 :: J 17 :: J 18 :: J 19 :: J 20 :: J 21 :: J 22 :: J 23 :: J 24 :: J 25 :: J 26 :: J 27 :: J 28 :: J 29 :: J 30 :: J 31 :: J 32 :: J 33 :: J 34 :: J 35 :: J 36 :: J 37 :: J 38 :: J 39 :: J 40 :: J 41 :: J 42 :: J 43 :: J 44 :: J 45 :: J 46 :: J 47 :: J 48 :: J 49 :: J 50 :: J 51 :: J 52 :: J 53 :: J 54 :: J 55 :: J 56 :: J 57 :: J 58 :: J 59 :: J 60 :: J 61 :: J 62 :: J 63 :: J 64 :: J 65 :: J 66 :: J 67 :: J 68 :: J 69 :: J 70 :: J 71 :: J 72 :: J 73 :: J 74 :: J 75 :: J 76 :: J 77 :: J 78 :: J 79 :: J 80 :: J 81 :: J 82 :: J 83 :: J 84 :: J 85 :: J 86 :: J 87 :: J 88 :: J 89 :: J 90 :: J 91 :: J 92 :: J 93 :: J 94 :: J 95 :: J 96 :: J 97 :: J 98 :: J 99 :: J 100 :: J 101 :: J 102 :: J 103 :: J 104 :: J 105 :: J 106 :: J 107 :: J 108 :: J 109 :: J 110 :: J 111 :: J 112 :: J 113 :: J 114 :: J 115 :: J 116 :: J 117 :: J 118 :: J 119 :: J 120 :: J 121 :: J 122 :: J 123 :: J 124 :: J 125 :: J 126 :: J 127 :: J 128 :: J 129 :: J 130 :: J 131 :: J 132 :: J 133 :: J 134 :: J 135 :: J 136 :: J 137 :: J 138 :: J 139 :: J 140 :: J 141 :: J 142 :: J 143 :: J 144 :: J 145 :: J 146 :: J 147 :: [] from by kernel_rfl] at hJ; replace k0 := Option.some.inj ((congrArg (·[0]?) hJ).symm.trans k0); replace k1 := Option.some.inj ((congrArg (·[1]?) hJ).symm.trans k1); replace k3 := Option.some.inj ((congrArg (·[3]?) hJ).symm.trans k3); replace k4 := Option.some.inj ((congrArg (·[4]?) hJ).symm.trans k4); replace k7 := Option.some.inj ((congrArg (·[7]?) hJ).symm.trans k7); replace k11 := Option.some.inj ((congrArg (·[11]?) hJ).symm.trans k11); replace k12 := Option.some.inj ((congrArg (·[12]?) hJ).symm.trans k12); replace k13 := Option.some.inj ((congrArg (·[13]?) hJ).symm.trans k13); rw [k0, k1, k3, k4, k7, k11, k12, k13] at hJ; dsimp only at hJ hT; subst hJ; replace hT := hT.symm; subst hT; clear hL k0 k1 k3 k4 k7 k11 k12 k13
  by_cases hb : i < p.length
  · rw [packS_drop hb] at h3
    (try refine go ⟨?_⟩)
    ((refine call ?_); (refine ⟨_, has_ev _ _ (by omega) _ _ (by first | omega | (simp; done) | (simp; omega)), ?_⟩); (try simp only [go_sem]))
    (try refine go ⟨?_⟩)
    cases hq : decide (p[i] ∈ ints (leftS rows ts))
    · rw [hq] at h3
      simp only [Bool.false_and] at h3
      rw [h3]
      (try refine go ⟨?_⟩)
      refine ⟨by first | exact .inr rfl | exact .inl rfl, .inl ⟨[], _, (by dsimp only [Tryd.f47]; exact sv), ?_, by simp⟩⟩
      rfl
    rw [hq] at h3
    have hmem := of_decide_eq_true hq
    have hpi := mem_left hmem
    have hra := rowAt_eq hpi.2
    have hri := hrr rows[p[i].toNat] (List.getElem_mem hpi.2)
    by_cases c3 : i = 0
    · have h0 : ¬ 0 < i := by omega
      rw [dif_neg h0] at h3
      simp only [Bool.true_and, Bool.and_true] at h3
      (try refine go ⟨?_⟩)
      refine c_loop (fun m s => ∃ (j : Nat), (j ≤ i ∧ m = i - j ∧ ((p.take j).any fun q => meetsS (rowAt rows p[i]) (rowAt rows q)) = false) ∧ (s.env.length = 148 ∧ s.sto = sto ++ [.cells [.v (VI r), .v (LI p), .v (.sl k.length (cellsCs k))]] ∧ s.env[0]? = some (.v (LLI rows)) ∧ s.env[1]? = some (.v (LI cost)) ∧ s.env[3]? = some (.v (LI ts)) ∧ s.env[4]? = some (.v (VI bound)) ∧ s.env[7]? = some (.ptr sto.length 0) ∧ s.env[11]? = some (.v (LI (ints (leftS rows ts)))) ∧ s.env[12]? = some (.v (VI acc)) ∧ s.env[13]? = some (.v (VI i)) ∧ s.env[14]? = some (.v (VI j)))) (.refl _) ⟨0, ⟨by omega, rfl, by simp⟩, rfl, rfl, ?_, ?_, ?_, ?_, ?_, ?_, ?_, ?_, ?_⟩ ?_
      all_goals first | rfl | skip
      rintro m s ⟨j, ⟨g1, rfl, g3⟩, hL, hT, k0, k1, k3, k4, k7, k11, k12, k13, k14⟩
      obtain ⟨env, st0⟩ := s; obtain ⟨J, hJ⟩ := listJ hL; rw [show (List.range 148).map J = J 0 :: J 1 :: J 2 :: J 3 :: J 4 :: J 5 :: J 6 :: J 7 :: J 8 :: J 9 :: J 10 :: J 11 :: J 12 :: J 13 :: J 14 :: J 15 :: J 16 :: J 17 :: J 18 :: J 19 :: J 20 :: J 21 :: J 22 :: J 23 :: J 24 :: J 25 :: J 26 :: J 27 :: J 28 :: J 29 :: J 30 :: J 31 :: J 32 :: J 33 :: J 34 :: J 35 :: J 36 :: J 37 :: J 38 :: J 39 :: J 40 :: J 41 :: J 42 :: J 43 :: J 44 :: J 45 :: J 46 :: J 47 :: J 48 :: J 49 :: J 50 :: J 51 :: J 52 :: J 53 :: J 54 :: J 55 :: J 56 :: J 57 :: J 58 :: J 59 :: J 60 :: J 61 :: J 62 :: J 63 :: J 64 :: J 65 :: J 66 :: J 67 :: J 68 :: J 69 :: J 70 :: J 71 :: J 72 :: J 73 :: J 74 :: J 75 :: J 76 :: J 77 :: J 78 :: J 79 :: J 80 :: J 81 :: J 82 :: J 83 :: J 84 :: J 85 :: J 86 :: J 87 :: J 88 :: J 89 :: J 90 :: J 91 :: J 92 :: J 93 :: J 94 :: J 95 :: J 96 :: J 97 :: J 98 :: J 99 :: J 100 :: J 101 :: J 102 :: J 103 :: J 104 :: J 105 :: J 106 :: J 107 :: J 108 :: J 109 :: J 110 :: J 111 :: J 112 :: J 113 :: J 114 :: J 115 :: J 116 :: J 117 :: J 118 :: J 119 :: J 120 :: J 121 :: J 122 :: J 123 :: J 124 :: J 125 :: J 126 :: J 127 :: J 128 :: J 129 :: J 130 :: J 131 :: J 132 :: J 133 :: J 134 :: J 135 :: J 136 :: J 137 :: J 138 :: J 139 :: J 140 :: J 141 :: J 142 :: J 143 :: J 144 :: J 145 :: J 146 :: J 147 :: [] from by kernel_rfl] at hJ; replace k0 := Option.some.inj ((congrArg (·[0]?) hJ).symm.trans k0); replace k1 := Option.some.inj ((congrArg (·[1]?) hJ).symm.trans k1); replace k3 := Option.some.inj ((congrArg (·[3]?) hJ).symm.trans k3); replace k4 := Option.some.inj ((congrArg (·[4]?) hJ).symm.trans k4); replace k7 := Option.some.inj ((congrArg (·[7]?) hJ).symm.trans k7); replace k11 := Option.some.inj ((congrArg (·[11]?) hJ).symm.trans k11); replace k12 := Option.some.inj ((congrArg (·[12]?) hJ).symm.trans k12); replace k13 := Option.some.inj ((congrArg (·[13]?) hJ).symm.trans k13); replace k14 := Option.some.inj ((congrArg (·[14]?) hJ).symm.trans k14); rw [k0, k1, k3, k4, k7, k11, k12, k13, k14] at hJ; dsimp only at hJ hT; subst hJ; replace hT := hT.symm; subst hT; clear hL k0 k1 k3 k4 k7 k11 k12 k13 k14
      by_cases hj : j < i
      · exfalso; omega
      · obtain rfl : j = i := by omega
        have hcb := cheapS_bound hc rows[p[j].toNat]
        (try refine go ⟨?_⟩)
        ((refine call ?_); (refine ⟨_, refCheap_ev _ _ (hin _ (List.getElem_mem hpi.2)) (by omega) _ _ (by first | omega | (simp; done) | (simp; omega)), ?_⟩); (try simp only [go_sem]))
        (try refine go ⟨?_⟩)
        refine ⟨_, _, ?_, .refl _, j + 1, acc + cheapS cost rows[p[j].toNat], ⟨by omega, rfl, ?_, by omega, by omega, ?_, ?_⟩, rfl, rfl, ?_, ?_, ?_, ?_, ?_, ?_, ?_, ?_⟩
        · omega
        · rw [hacc, take_succ hb, List.map_append, List.sum_append, hra]; simp only [List.map_cons, List.map_nil, List.sum_cons, List.sum_nil]; omega
        · intro q hq
          rw [take_succ hb] at hq
          rcases List.mem_append.1 hq with h | h
          · exact hpl q h
          · rw [List.mem_singleton.1 h]; exact hmem
        · rw [h3, g3]; rfl
        all_goals rfl
    · have hidx : ((i : Int) - 1).toNat = i - 1 := by omega
      by_cases c4 : p[i] ≤ p[((i : Int) - 1).toNat]'(by omega)
      · have : packS rows (ints (leftS rows ts)) [] p = false := by
          rw [h3, dif_pos (by omega)]
          simp only [hidx] at c4
          simp [show ¬ p[i - 1] < p[i] by omega]
        rw [this]
        (try refine go ⟨?_⟩)
        refine ⟨by first | exact .inr rfl | exact .inl rfl, .inl ⟨[], _, (by dsimp only [Tryd.f47]; exact sv), ?_, by simp⟩⟩
        rfl
      have h0 : p[i - 1] < p[i] := by simp only [hidx] at c4; omega
      rw [dif_pos (by omega), decide_eq_true h0] at h3
      simp only [Bool.true_and, Bool.and_true] at h3
      (try refine go ⟨?_⟩)
      refine c_loop (fun m s => ∃ (j : Nat), (j ≤ i ∧ m = i - j ∧ ((p.take j).any fun q => meetsS (rowAt rows p[i]) (rowAt rows q)) = false) ∧ (s.env.length = 148 ∧ s.sto = sto ++ [.cells [.v (VI r), .v (LI p), .v (.sl k.length (cellsCs k))]] ∧ s.env[0]? = some (.v (LLI rows)) ∧ s.env[1]? = some (.v (LI cost)) ∧ s.env[3]? = some (.v (LI ts)) ∧ s.env[4]? = some (.v (VI bound)) ∧ s.env[7]? = some (.ptr sto.length 0) ∧ s.env[11]? = some (.v (LI (ints (leftS rows ts)))) ∧ s.env[12]? = some (.v (VI acc)) ∧ s.env[13]? = some (.v (VI i)) ∧ s.env[14]? = some (.v (VI j)))) (.refl _) ⟨0, ⟨by omega, rfl, by simp⟩, rfl, rfl, ?_, ?_, ?_, ?_, ?_, ?_, ?_, ?_, ?_⟩ ?_
      all_goals first | rfl | skip
      rintro m s ⟨j, ⟨g1, rfl, g3⟩, hL, hT, k0, k1, k3, k4, k7, k11, k12, k13, k14⟩
      obtain ⟨env, st0⟩ := s; obtain ⟨J, hJ⟩ := listJ hL; rw [show (List.range 148).map J = J 0 :: J 1 :: J 2 :: J 3 :: J 4 :: J 5 :: J 6 :: J 7 :: J 8 :: J 9 :: J 10 :: J 11 :: J 12 :: J 13 :: J 14 :: J 15 :: J 16 :: J 17 :: J 18 :: J 19 :: J 20 :: J 21 :: J 22 :: J 23 :: J 24 :: J 25 :: J 26 :: J 27 :: J 28 :: J 29 :: J 30 :: J 31 :: J 32 :: J 33 :: J 34 :: J 35 :: J 36 :: J 37 :: J 38 :: J 39 :: J 40 :: J 41 :: J 42 :: J 43 :: J 44 :: J 45 :: J 46 :: J 47 :: J 48 :: J 49 :: J 50 :: J 51 :: J 52 :: J 53 :: J 54 :: J 55 :: J 56 :: J 57 :: J 58 :: J 59 :: J 60 :: J 61 :: J 62 :: J 63 :: J 64 :: J 65 :: J 66 :: J 67 :: J 68 :: J 69 :: J 70 :: J 71 :: J 72 :: J 73 :: J 74 :: J 75 :: J 76 :: J 77 :: J 78 :: J 79 :: J 80 :: J 81 :: J 82 :: J 83 :: J 84 :: J 85 :: J 86 :: J 87 :: J 88 :: J 89 :: J 90 :: J 91 :: J 92 :: J 93 :: J 94 :: J 95 :: J 96 :: J 97 :: J 98 :: J 99 :: J 100 :: J 101 :: J 102 :: J 103 :: J 104 :: J 105 :: J 106 :: J 107 :: J 108 :: J 109 :: J 110 :: J 111 :: J 112 :: J 113 :: J 114 :: J 115 :: J 116 :: J 117 :: J 118 :: J 119 :: J 120 :: J 121 :: J 122 :: J 123 :: J 124 :: J 125 :: J 126 :: J 127 :: J 128 :: J 129 :: J 130 :: J 131 :: J 132 :: J 133 :: J 134 :: J 135 :: J 136 :: J 137 :: J 138 :: J 139 :: J 140 :: J 141 :: J 142 :: J 143 :: J 144 :: J 145 :: J 146 :: J 147 :: [] from by kernel_rfl] at hJ; replace k0 := Option.some.inj ((congrArg (·[0]?) hJ).symm.trans k0); replace k1 := Option.some.inj ((congrArg (·[1]?) hJ).symm.trans k1); replace k3 := Option.some.inj ((congrArg (·[3]?) hJ).symm.trans k3); replace k4 := Option.some.inj ((congrArg (·[4]?) hJ).symm.trans k4); replace k7 := Option.some.inj ((congrArg (·[7]?) hJ).symm.trans k7); replace k11 := Option.some.inj ((congrArg (·[11]?) hJ).symm.trans k11); replace k12 := Option.some.inj ((congrArg (·[12]?) hJ).symm.trans k12); replace k13 := Option.some.inj ((congrArg (·[13]?) hJ).symm.trans k13); replace k14 := Option.some.inj ((congrArg (·[14]?) hJ).symm.trans k14); rw [k0, k1, k3, k4, k7, k11, k12, k13, k14] at hJ; dsimp only at hJ hT; subst hJ; replace hT := hT.symm; subst hT; clear hL k0 k1 k3 k4 k7 k11 k12 k13 k14
      by_cases hj : j < i
      · have hmj := hpl p[j] (List.mem_take_iff_getElem.2 ⟨j, by omega, rfl⟩)
        have hpj := mem_left hmj
        have hrj := rowAt_eq hpj.2
        have hrjl := hrr rows[p[j].toNat] (List.getElem_mem hpj.2)
        (try refine go ⟨?_⟩)
        ((refine call ?_); (refine ⟨_, meets_ev _ _ (by omega) (by omega) _ _ (by first | omega | (simp; done) | (simp; omega)), ?_⟩); (try simp only [go_sem]))
        (try refine go ⟨?_⟩)
        cases hm : meetsS rows[p[i].toNat] rows[p[j].toNat]
        · (try refine go ⟨?_⟩)
          refine ⟨_, _, ?_, .refl _, j + 1, ⟨by omega, rfl, ?_⟩, rfl, rfl, ?_, ?_, ?_, ?_, ?_, ?_, ?_, ?_, ?_⟩
          · omega
          · rw [take_succ (by omega), List.any_append, g3, ← hra]; simp only [List.any_cons, List.any_nil, ← hrj, hm, Bool.or_self]
          all_goals rfl
        · have : packS rows (ints (leftS rows ts)) [] p = false := by
            rw [h3, List.any_eq_true.2 ⟨p[j], List.mem_take_iff_getElem.2 ⟨j, by omega, rfl⟩, by rw [← hra, ← hrj]; exact hm⟩]
            rfl
          rw [this]
          (try refine go ⟨?_⟩)
          refine ⟨by first | exact .inr rfl | exact .inl rfl, .inl ⟨[], _, (by dsimp only [Tryd.f47]; exact sv), ?_, by simp⟩⟩
          rfl
      · obtain rfl : j = i := by omega
        have hcb := cheapS_bound hc rows[p[j].toNat]
        (try refine go ⟨?_⟩)
        ((refine call ?_); (refine ⟨_, refCheap_ev _ _ (hin _ (List.getElem_mem hpi.2)) (by omega) _ _ (by first | omega | (simp; done) | (simp; omega)), ?_⟩); (try simp only [go_sem]))
        (try refine go ⟨?_⟩)
        refine ⟨_, _, ?_, .refl _, j + 1, acc + cheapS cost rows[p[j].toNat], ⟨by omega, rfl, ?_, by omega, by omega, ?_, ?_⟩, rfl, rfl, ?_, ?_, ?_, ?_, ?_, ?_, ?_, ?_⟩
        · omega
        · rw [hacc, take_succ hb, List.map_append, List.sum_append, hra]; simp only [List.map_cons, List.map_nil, List.sum_cons, List.sum_nil]; omega
        · intro q hq
          rw [take_succ hb] at hq
          rcases List.mem_append.1 hq with h | h
          · exact hpl q h
          · rw [List.mem_singleton.1 h]; exact hmem
        · rw [h3, g3]; rfl
        all_goals rfl
  · (try refine go ⟨?_⟩)
    have : packS rows (ints (leftS rows ts)) [] p = true := by rw [h3, List.drop_of_length_le (by omega)]; rfl
    rw [List.take_of_length_le (by omega)] at hacc
    rw [this, ← hacc]
    refine ⟨by first | exact .inr rfl | exact .inl rfl, .inl ⟨[], _, (by dsimp only [Tryd.f47]; exact sv), ?_, by simp⟩⟩
    simp
end Go.Proofs.YtgkhcjdpdgfdbaaDoor
namespace Go.Proofs.YtgkhcjdpdgfdbaaDoor
open Go Go.RowKit

attribute [local irreducible] EvOps EvC
attribute [local go_sem] List.flatten_cons List.flatten_nil List.contains_nil
set_option linter.unusedSimpArgs false
set_option linter.unusedVariables false
set_option maxRecDepth 100000
set_option maxHeartbeats 20000000
theorem refShows_kids (rows : List (List Int)) (cost : List Int) (bound : Int) (hr : rows.length < 1000000) (hrr : ∀ r ∈ rows, r.length < 1000000) (hc : CostOK cost) (hin : ∀ r ∈ rows, In cost.length r) (N : Nat) (ih : ∀ (c : Crt) (ts : List Int) (sto : Sto) (lo : Nat), csz c ≤ N → ts.length + csz c < 1000000 → In cost.length ts → lo ≤ sto.length → CallEv Tryd.prog tab B0 47 [.v (LLI rows), .v (LI cost), .v (CV c), .v (LI ts), .v (VI bound)] sto lo (.v (.bool (showsS rows cost bound c ts))) sto) (r : Int) (p : List Int) (k : List Crt) (hk : ¬ k.length = 0) (ts : List Int) (sto : Sto) (lo : Nat) (hN' : 1 + p.length + cszs k ≤ N + 1) (hlen' : ts.length + (1 + p.length + cszs k) < 1000000) (hts : In cost.length ts) (hlo : lo ≤ sto.length) : CallEv Tryd.prog tab B0 47 [.v (LLI rows), .v (LI cost), .v (CV (.mk r p k)), .v (LI ts), .v (VI bound)] sto lo (.v (.bool (showsS rows cost bound (.mk r p k) ts))) sto := by
  have hck := cszs_length k
  have hpr := priceS_bound hc ts
  have hll := leftS_length rows ts
  have hll2 : (ints (leftS rows ts)).length ≤ rows.length := by simpa using hll
  refine CallEv.intro ⟨_, _, [], Tryd.func47, rfl, by decide, ?_⟩; simp only [go_sem, Tryd.ntmps47]
  (try refine go ⟨?_⟩)
  ((refine call ?_); (refine ⟨_, refLeft_ev _ _ hr hrr (by omega) _ _ (by first | omega | (simp; done) | (simp; omega)), ?_⟩); (try simp only [go_sem]))
  have hS : showsS rows cost bound (.mk r p k) ts = (decide (p.length = 0) && decide (r ∈ ints (leftS rows ts)) && decide ((testsS (rowAt rows r)).length = k.length) && showsL rows cost bound k (ints (testsS (rowAt rows r))) ts) := by simp [showsS, hk]
  rw [hS]
  by_cases hp : p.length = 0
  · (try refine go ⟨?_⟩)
    ((refine call ?_); (refine ⟨_, has_ev _ _ (by omega) _ _ (by first | omega | (simp; done) | (simp; omega)), ?_⟩); (try simp only [go_sem]))
    (try refine go ⟨?_⟩)
    cases hq : decide (r ∈ ints (leftS rows ts))
    · (try refine go ⟨?_⟩)
      refine ⟨by first | exact .inr rfl | exact .inl rfl, .inl ⟨[], _, (by dsimp only [Tryd.f47]; exact sv), ?_, by simp⟩⟩
      simp
    have hmem := of_decide_eq_true hq
    have hri := mem_left hmem
    have hra := rowAt_eq hri.2
    have hrl := hrr rows[r.toNat] (List.getElem_mem hri.2)
    (try refine go ⟨?_⟩)
    ((refine call ?_); (refine ⟨_, refTests_ev _ (by omega) _ _ (by first | omega | (simp; done) | (simp; omega)), ?_⟩); (try simp only [go_sem]))
    rw [hra]
    have htl := testsS_length (rowAt rows r)
    have htl2 : (ints (testsS (rowAt rows r))).length = (testsS (rowAt rows r)).length := by simp
    by_cases hL : (testsS (rowAt rows r)).length = k.length
    · rw [decide_eq_true hp, decide_eq_true hL]
      simp only [Bool.true_and]
      (try refine go ⟨?_⟩)
      refine c_loop (fun m s => ∃ (i : Nat) (js : List Ent), (i ≤ k.length ∧ m = k.length - i ∧ showsL rows cost bound k (ints (testsS (rowAt rows r))) ts = showsL rows cost bound (k.drop i) ((ints (testsS (rowAt rows r))).drop i) ts) ∧ (s.env.length = 148 ∧ s.sto = sto ++ .cells [.v (VI r), .v (LI p), .v (.sl k.length (cellsCs k))] :: js ∧ s.env[0]? = some (.v (LLI rows)) ∧ s.env[1]? = some (.v (LI cost)) ∧ s.env[3]? = some (.v (LI ts)) ∧ s.env[4]? = some (.v (VI bound)) ∧ s.env[7]? = some (.ptr sto.length 0) ∧ s.env[15]? = some (.v (LI (ints (testsS (rowAt rows r))))) ∧ s.env[16]? = some (.v (VI i)))) (.refl _) ⟨0, [], ⟨by omega, rfl, rfl⟩, rfl, rfl, ?_, ?_, ?_, ?_, ?_, ?_, ?_⟩ ?_
      all_goals first | rfl | skip
      rintro m s ⟨i, js, ⟨h1, rfl, h3⟩, hL, hT, k0, k1, k3, k4, k7, k15, k16⟩
      obtain ⟨env, st0⟩ := s; obtain ⟨J, hJ⟩ := listJ hL; rw [show (List.range 148).map J = J 0 :: J 1 :: J 2 :: J 3 :: J 4 :: J 5 :: J 6 :: J 7 :: J 8 :: J 9 :: J 10 :: J 11 :: J 12 :: J 13 :: J 14 :: J 15 :: J 16 :: J 17 :: J 18 :: J 19 :: J 20 :: J 21 :: J 22 :: J 23 :: J 24 :: J 25 :: J 26 :: J 27 :: J 28 :: J 29 :: J 30 :: J 31 :: J 32 :: J 33 :: J 34 :: J 35 :: J 36 :: J 37 :: J 38 :: J 39 :: J 40 :: J 41 :: J 42 :: J 43 :: J 44 :: J 45 :: J 46 :: J 47 :: J 48 :: J 49 :: J 50 :: J 51 :: J 52 :: J 53 :: J 54 :: J 55 :: J 56 :: J 57 :: J 58 :: J 59 :: J 60 :: J 61 :: J 62 :: J 63 :: J 64 :: J 65 :: J 66 :: J 67 :: J 68 :: J 69 :: J 70 :: J 71 :: J 72 :: J 73 :: J 74 :: J 75 :: J 76 :: J 77 :: J 78 :: J 79 :: J 80 :: J 81 :: J 82 :: J 83 :: J 84 :: J 85 :: J 86 :: J 87 :: J 88 :: J 89 :: J 90 :: J 91 :: J 92 :: J 93 :: J 94 :: J 95 :: J 96 :: J 97 :: J 98 :: J 99 :: J 100 :: J 101 :: J 102 :: J 103 :: J 104 :: J 105 :: J 106 :: J 107 :: J 108 :: J 109 :: J 110 :: J 111 :: J 112 :: J 113 :: J 114 :: J 115 :: J 116 :: J 117 :: J 118 :: J 119 :: J 120 :: J 121 :: J 122 :: J 123 :: J 124 :: J 125 :: J 126 :: J 127 :: J 128 :: J 129 :: J 130 :: J 131 :: J 132 :: J 133 :: J 134 :: J 135 :: J 136 :: J 137 :: J 138 :: J 139 :: J 140 :: J 141 :: J 142 :: J 143 :: J 144 :: J 145 :: J 146 :: J 147 :: [] from by kernel_rfl] at hJ; replace k0 := Option.some.inj ((congrArg (·[0]?) hJ).symm.trans k0); replace k1 := Option.some.inj ((congrArg (·[1]?) hJ).symm.trans k1); replace k3 := Option.some.inj ((congrArg (·[3]?) hJ).symm.trans k3); replace k4 := Option.some.inj ((congrArg (·[4]?) hJ).symm.trans k4); replace k7 := Option.some.inj ((congrArg (·[7]?) hJ).symm.trans k7); replace k15 := Option.some.inj ((congrArg (·[15]?) hJ).symm.trans k15); replace k16 := Option.some.inj ((congrArg (·[16]?) hJ).symm.trans k16); rw [k0, k1, k3, k4, k7, k15, k16] at hJ; dsimp only at hJ hT; subst hJ; replace hT := hT.symm; subst hT; clear hL k0 k1 k3 k4 k7 k15 k16
      by_cases hb : i < k.length
      · have hcz := csz_get hb
        have hti := testsS_in (rowAt_in hin r) ((testsS (rowAt rows r))[i] : Int) (List.mem_map.2 ⟨_, List.getElem_mem (by omega), rfl⟩)
        have hin2 : In cost.length (ts ++ [((testsS (rowAt rows r))[i] : Int)]) := by
          intro t ht
          rcases List.mem_append.1 ht with h | h
          · exact hts t h
          · rw [List.mem_singleton.1 h]; exact hti
        by_cases ht0 : ts.length = 0
        · obtain rfl := List.eq_nil_of_length_eq_zero ht0
          (try refine go ⟨?_⟩)
          ((refine call ?_); (refine ⟨_, ih k[i] ([] ++ [((testsS (rowAt rows r))[i] : Int)]) _ _ (by omega) (by simp; omega) hin2 (by first | omega | (simp; done) | (simp; omega)), ?_⟩); (try simp only [go_sem]))
          (try refine go ⟨?_⟩)
          rw [showsL_drop (by omega) (by simp; omega)] at h3
          simp only [List.getElem_map, List.nil_append] at h3
          cases hq2 : showsS rows cost bound k[i] [((testsS (rowAt rows r))[i] : Int)]
          · rw [hq2] at h3
            rw [h3]
            (try refine go ⟨?_⟩)
            refine ⟨by first | exact .inr rfl | exact .inl rfl, .inl ⟨[], _, (by dsimp only [Tryd.f47]; exact sv), ?_, by simp⟩⟩
            rfl
          · rw [hq2] at h3
            (try refine go ⟨?_⟩)
            refine ⟨_, _, ?_, .refl _, i + 1, _, ⟨by omega, rfl, ?_⟩, rfl, rfl, ?_, ?_, ?_, ?_, ?_, ?_, ?_⟩
            · omega
            · rw [h3]; rfl
            all_goals rfl
        · (try refine go ⟨?_⟩)
          ((with_reducible apply ops_call); rfl; (simp (disch := (first | omega | assumption | ((repeat' with_reducible apply And.intro) <;> first | omega | assumption | rfl | (apply Or.inl; rfl) | (apply Or.inr; first | rfl | trivial | fail) | fail) | fail)) only [go_sem, if_pos, if_neg, wrapI, wrapU, decide_eq_true, decide_eq_false, beqT, beqF, bneT, bneF] <;> rfl); (rw [show V.sl (ts.length + 1) (ts.map VI ++ [VI ((testsS (rowAt rows r))[i] : Int)]) = LI (ts ++ [((testsS (rowAt rows r))[i] : Int)]) from by simp [LI, SL]]; exact ih k[i] (ts ++ [((testsS (rowAt rows r))[i] : Int)]) _ _ (by omega) (by simp; omega) hin2 (by first | omega | (simp; done) | (simp; omega))); (try simp only [go_sem]))
          (try refine go ⟨?_⟩)
          rw [showsL_drop (by omega) (by simp; omega)] at h3
          simp only [List.getElem_map] at h3
          cases hq2 : showsS rows cost bound k[i] (ts ++ [((testsS (rowAt rows r))[i] : Int)])
          · rw [hq2] at h3
            rw [h3]
            (try refine go ⟨?_⟩)
            refine ⟨by first | exact .inr rfl | exact .inl rfl, .inl ⟨[], _, (by dsimp only [Tryd.f47]; exact sv), ?_, by simp⟩⟩
            rfl
          · rw [hq2] at h3
            (try refine go ⟨?_⟩)
            refine ⟨_, _, ?_, .refl _, i + 1, _, ⟨by omega, rfl, ?_⟩, rfl, rfl, ?_, ?_, ?_, ?_, ?_, ?_, ?_⟩
            · omega
            · rw [h3]; rfl
            all_goals rfl
      · (try refine go ⟨?_⟩)
        refine ⟨by first | exact .inr rfl | exact .inl rfl, .inl ⟨[], _, (by dsimp only [Tryd.f47]; exact sv), ?_, by simp⟩⟩
        rw [h3, List.drop_of_length_le (by omega)]; rfl
    · (try refine go ⟨?_⟩)
      refine ⟨by first | exact .inr rfl | exact .inl rfl, .inl ⟨[], _, (by dsimp only [Tryd.f47]; exact sv), ?_, by simp⟩⟩
      simp [hL]
  · (try refine go ⟨?_⟩)
    refine ⟨by first | exact .inr rfl | exact .inl rfl, .inl ⟨[], _, (by dsimp only [Tryd.f47]; exact sv), ?_, by simp⟩⟩
    simp [hp]
end Go.Proofs.YtgkhcjdpdgfdbaaDoor
namespace Go.Proofs.YtgkhcjdpdgfdbaaDoor
open Go Go.RowKit
theorem refShows_ev (rows : List (List Int)) (cost : List Int) (bound : Int) (hr : rows.length < 1000000) (hrr : ∀ r ∈ rows, r.length < 1000000) (hc : CostOK cost) (hin : ∀ r ∈ rows, In cost.length r) (N : Nat) : ∀ (c : Crt) (ts : List Int) (sto : Sto) (lo : Nat), csz c ≤ N → ts.length + csz c < 1000000 → In cost.length ts → lo ≤ sto.length → CallEv Tryd.prog tab B0 47 [.v (LLI rows), .v (LI cost), .v (CV c), .v (LI ts), .v (VI bound)] sto lo (.v (.bool (showsS rows cost bound c ts))) sto := by
  induction N with
  | zero => intro c ts sto lo h; cases c; simp only [csz] at h; omega
  | succ N ih =>
    rintro ⟨r, p, k⟩ ts sto lo hN hlen hts hlo
    by_cases hk : k.length = 0
    · exact refShows_leaf rows cost bound hr hrr hc hin r p k hk ts sto lo hlen hts hlo
    · exact refShows_kids rows cost bound hr hrr hc hin N ih r p k hk ts sto lo hN hlen hts hlo
end Go.Proofs.YtgkhcjdpdgfdbaaDoor
namespace Go.Proofs.YtgkhcjdpdgfdbaaDoor
open Go Go.RowKit

attribute [local irreducible] EvOps EvC
attribute [local go_sem] List.flatten_cons List.flatten_nil List.contains_nil
set_option linter.unusedSimpArgs false
set_option linter.unusedVariables false
set_option maxRecDepth 100000
set_option maxHeartbeats 2000000
theorem possS_ok {rows : List (List Int)} {cost : List Int} (h : possS rows cost = true) : rows.length ≤ 512 ∧ CostOK cost ∧ ∀ r ∈ rows, In cost.length r := by
  simp only [possS, Bool.and_eq_true, decide_eq_true_eq, List.all_eq_true] at h
  obtain ⟨⟨⟨h1, h2⟩, h3⟩, h4⟩ := h
  exact ⟨h1, ⟨h2, h3⟩, h4⟩
theorem suiteS_in {rows : List (List Int)} {cost ts : List Int} (h : suiteS rows cost ts = true) : In cost.length ts := by
  have key : ∀ (ts : List Int) (a : Int), -1 ≤ a → incS cost.length a ts = true → In cost.length ts := by
    intro ts
    induction ts with
    | nil => intro a _ _ t ht; cases ht
    | cons t ts ih =>
      intro a ha h u hu
      simp only [incS, Bool.and_eq_true, decide_eq_true_eq] at h
      rcases List.mem_cons.1 hu with rfl | hu
      · omega
      · exact ih t (by omega) h.2 u hu
  simp only [suiteS, Bool.and_eq_true] at h
  exact key ts (-1) (by omega) h.1
theorem refCheck_ev (rows : List (List Int)) (cost ts : List Int) (c : Crt) (hr : rows.length < 1000000) (hrr : ∀ r ∈ rows, r.length < 1000000) (hc : cost.length < 1000000) (ht : ts.length < 1000000) (hz : csz c < 1000000) (sto : Sto) (lo : Nat) (hlo : lo ≤ sto.length) : CallEv Tryd.prog tab B0 25 [.v (LLI rows), .v (LI cost), .v (LI ts), .v (CV c)] sto lo (.v (VI (checkS rows cost ts c 0 1 22))) sto := by
  obtain ⟨r, p, k⟩ := c
  refine CallEv.intro ⟨_, _, [], Tryd.func25, rfl, by decide, ?_⟩; simp only [go_sem, Tryd.ntmps25]
  (try refine go ⟨?_⟩)
  ((refine call ?_); (refine ⟨_, refPossible_ev _ _ hr hrr hc _ _ (by first | omega | (simp; done) | (simp; omega)), ?_⟩); (try simp only [go_sem]))
  cases h1 : possS rows cost
  · (try refine go ⟨?_⟩)
    refine ⟨by first | exact .inr rfl | exact .inl rfl, .inl ⟨[], _, (by dsimp only [Tryd.f25]; exact sv), ?_, by simp⟩⟩
    simp [checkS, h1]
  obtain ⟨_, hcost, hin⟩ := possS_ok h1
  (try refine go ⟨?_⟩)
  ((refine call ?_); (refine ⟨_, refSuite_ev _ _ _ hr hrr hc ht _ _ (by first | omega | (simp; done) | (simp; omega)), ?_⟩); (try simp only [go_sem]))
  cases h2 : suiteS rows cost ts
  · (try refine go ⟨?_⟩)
    refine ⟨by first | exact .inr rfl | exact .inl rfl, .inl ⟨[], _, (by dsimp only [Tryd.f25]; exact sv), ?_, by simp⟩⟩
    simp [checkS, h1, h2]
  have hts := suiteS_in h2
  (try refine go ⟨?_⟩)
  ((refine call ?_); (refine ⟨_, refPrice_ev _ _ hcost hts ht _ _ (by first | omega | (simp; done) | (simp; omega)), ?_⟩); (try simp only [go_sem]))
  (try refine go ⟨?_⟩)
  ((refine call ?_); (refine ⟨_, refShows_ev rows cost (priceS cost ts) hr hrr hcost hin _ (.mk r p k) [] _ _ (Nat.le_refl _) (by simp; omega) (fun t h => by cases h) (by first | omega | (simp; done) | (simp; omega)), ?_⟩); (try simp only [go_sem]))
  cases h3 : showsS rows cost (priceS cost ts) (.mk r p k) []
  · (try refine go ⟨?_⟩)
    refine ⟨by first | exact .inr rfl | exact .inl rfl, .inl ⟨[], _, (by dsimp only [Tryd.f25]; exact sv), ?_, by simp⟩⟩
    simp [checkS, h1, h2, h3]
  · (try refine go ⟨?_⟩)
    refine ⟨by first | exact .inr rfl | exact .inl rfl, .inl ⟨[], _, (by dsimp only [Tryd.f25]; exact sv), ?_, by simp⟩⟩
    simp [checkS, h1, h2, h3]
end Go.Proofs.YtgkhcjdpdgfdbaaDoor
namespace Go.Proofs.YtgkhcjdpdgfdbaaDoor
open Go Go.RowKit

attribute [local irreducible] EvOps EvC
set_option linter.unusedSimpArgs false
set_option linter.unusedVariables false
set_option maxRecDepth 100000
set_option maxHeartbeats 1000000
theorem around_ev (n most : Int) (hn : Big n) (hm : 0 < most) (hm2 : most < 9223372036854775808) (sto : Sto) (lo : Nat) (hlo : lo ≤ sto.length) : CallEv Tryd.prog tab B0 20 [.v (VI n), .v (VI most)] sto lo (.v (VI (aroundS n most))) sto := by
  obtain ⟨hn1, hn2⟩ := hn
  have hb := aroundS_bound (n := n) hm
  refine CallEv.intro ⟨_, _, [], Tryd.func20, rfl, by decide, ?_⟩; simp only [go_sem, Tryd.ntmps20]
  by_cases c1 : n < 0
  · have e : aroundS n most = (-(n + 1)).tmod most := by simp [aroundS, c1]
    rw [e] at hb ⊢
    (try refine go ⟨?_⟩)
    refine ⟨by first | exact .inr rfl | exact .inl rfl, .inl ⟨[], _, (by dsimp only [Tryd.f20]; exact sv), ?_, by simp⟩⟩
    rw [show (0 : Int) - (n + 1) = -(n + 1) from by omega]
  · have e : aroundS n most = n.tmod most := by simp [aroundS, c1]
    rw [e] at hb ⊢
    (try refine go ⟨?_⟩)
    refine ⟨by first | exact .inr rfl | exact .inl rfl, .inl ⟨[], _, (by dsimp only [Tryd.f20]; exact sv), ?_, by simp⟩⟩
    rfl
theorem at_ev (l : List Int) (i most : Int) (hl : l.length < 9223372036854775808) (hx : ∀ x ∈ l, Big x) (hm : 0 < most) (hm2 : most < 9223372036854775808) (sto : Sto) (lo : Nat) (hlo : lo ≤ sto.length) : CallEv Tryd.prog tab B0 31 [.v (LI l), .v (VI i), .v (VI most)] sto lo (.v (VI (atS l i most))) sto := by
  refine CallEv.intro ⟨_, _, [], Tryd.func31, rfl, by decide, ?_⟩; simp only [go_sem, Tryd.ntmps31]
  by_cases c1 : i < 0
  · have e : atS l i most = 0 := by simp [atS, c1]
    rw [e]
    (try refine go ⟨?_⟩)
    refine ⟨by first | exact .inr rfl | exact .inl rfl, .inl ⟨[], _, (by dsimp only [Tryd.f31]; exact sv), ?_, by simp⟩⟩
    rfl
  by_cases c2 : i ≥ l.length
  · have e : atS l i most = 0 := by simp [atS, c2]
    rw [e]
    (try refine go ⟨?_⟩)
    refine ⟨by first | exact .inr rfl | exact .inl rfl, .inl ⟨[], _, (by dsimp only [Tryd.f31]; exact sv), ?_, by simp⟩⟩
    rfl
  have hi : i.toNat < l.length := by omega
  have e : atS l i most = aroundS l[i.toNat] most := by simp [atS, c1, c2, List.getD, hi]
  rw [e]
  (try refine go ⟨?_⟩)
  ((refine call ?_); (refine ⟨_, around_ev _ _ (hx _ (List.getElem_mem hi)) hm hm2 _ _ (by first | omega | (simp; done) | (simp; omega)), ?_⟩); (try simp only [go_sem]))
  (try refine go ⟨?_⟩)
  refine ⟨by first | exact .inr rfl | exact .inl rfl, .inl ⟨[], _, (by dsimp only [Tryd.f31]; exact sv), ?_, by simp⟩⟩
  rfl
theorem sameInts_ev (a b : List Int) (ha : a.length < 9223372036854775808) (hb' : b.length < 9223372036854775808) (sto : Sto) (lo : Nat) (hlo : lo ≤ sto.length) : CallEv Tryd.prog tab B0 27 [.v (LI a), .v (LI b)] sto lo (.v (.bool (decide (a = b)))) sto := by
  refine CallEv.intro ⟨_, _, [], Tryd.func27, rfl, by decide, ?_⟩; simp only [go_sem, Tryd.ntmps27]
  by_cases c1 : a.length = b.length
  · (try refine go ⟨?_⟩)
    refine c_loop (fun m s => ∃ (i : Nat), (i ≤ a.length ∧ m = a.length - i ∧ a.take i = b.take i) ∧ (s.env.length = 26 ∧ s.sto = sto ∧ s.env[0]? = some (.v (LI a)) ∧ s.env[1]? = some (.v (LI b)) ∧ s.env[5]? = some (.v (VI i)))) (.refl _) ⟨0, ⟨by omega, rfl, by simp⟩, rfl, rfl, ?_, ?_, ?_⟩ ?_
    all_goals first | rfl | skip
    rintro m s ⟨i, ⟨h1, rfl, h3⟩, hL, hT, k0, k1, k5⟩
    obtain ⟨env, st0⟩ := s; obtain ⟨J, hJ⟩ := listJ hL; rw [show (List.range 26).map J = J 0 :: J 1 :: J 2 :: J 3 :: J 4 :: J 5 :: J 6 :: J 7 :: J 8 :: J 9 :: J 10 :: J 11 :: J 12 :: J 13 :: J 14 :: J 15 :: J 16 :: J 17 :: J 18 :: J 19 :: J 20 :: J 21 :: J 22 :: J 23 :: J 24 :: J 25 :: [] from by kernel_rfl] at hJ; replace k0 := Option.some.inj ((congrArg (·[0]?) hJ).symm.trans k0); replace k1 := Option.some.inj ((congrArg (·[1]?) hJ).symm.trans k1); replace k5 := Option.some.inj ((congrArg (·[5]?) hJ).symm.trans k5); rw [k0, k1, k5] at hJ; dsimp only at hJ hT; subst hJ; replace hT := hT.symm; subst hT; clear hL k0 k1 k5
    by_cases hb : i < a.length
    · by_cases c2 : a[i] = b[i]
      · (try refine go ⟨?_⟩)
        refine ⟨_, _, ?_, .refl _, i + 1, ⟨by omega, rfl, ?_⟩, rfl, rfl, ?_, ?_, ?_⟩
        · omega
        · rw [take_succ hb, take_succ (by omega), h3, c2]
        all_goals rfl
      · have : decide (a = b) = false := decide_eq_false fun h => c2 (by subst h; rfl)
        rw [this]
        (try refine go ⟨?_⟩)
        refine ⟨by first | exact .inr rfl | exact .inl rfl, .inl ⟨[], _, (by dsimp only [Tryd.f27]; exact sv), ?_, by simp⟩⟩
        rfl
    · rw [List.take_of_length_le (by omega), List.take_of_length_le (by omega)] at h3
      rw [decide_eq_true h3]
      (try refine go ⟨?_⟩)
      refine ⟨by first | exact .inr rfl | exact .inl rfl, .inl ⟨[], _, (by dsimp only [Tryd.f27]; exact sv), ?_, by simp⟩⟩
      rfl
  · have : decide (a = b) = false := decide_eq_false fun h => c1 (by rw [h])
    rw [this]
    (try refine go ⟨?_⟩)
    refine ⟨by first | exact .inr rfl | exact .inl rfl, .inl ⟨[], _, (by dsimp only [Tryd.f27]; exact sv), ?_, by simp⟩⟩
    rfl
end Go.Proofs.YtgkhcjdpdgfdbaaDoor
namespace Go.Proofs.YtgkhcjdpdgfdbaaDoor
open Go Go.RowKit

attribute [local irreducible] EvOps EvC
attribute [local go_sem] List.flatten_cons List.flatten_nil List.contains_nil
set_option linter.unusedSimpArgs false
set_option linter.unusedVariables false
set_option maxRecDepth 100000
set_option maxHeartbeats 1000000
theorem refCosts_ev (l : List Int) (hl : l.length < 9223372036854775808) (hx : ∀ x ∈ l, Big x) (sto : Sto) (lo : Nat) (hlo : lo ≤ sto.length) : CallEv Tryd.prog tab B0 9 [.v (LI l)] sto lo (.v (LI (costsS l))) sto := by
  refine CallEv.intro ⟨_, _, [], Tryd.func9, rfl, by decide, ?_⟩; simp only [go_sem, Tryd.ntmps9]
  have hb0 := atS_bound (l := l) (i := 0) (most := 8) (by omega)
  (try refine go ⟨?_⟩)
  ((refine call ?_); (refine ⟨_, at_ev _ _ _ hl hx (by omega) (by omega) _ _ (by first | omega | (simp; done) | (simp; omega)), ?_⟩); (try simp only [go_sem]))
  (try refine go ⟨?_⟩)
  refine c_loop (fun m s => ∃ (i : Nat) (cs : List V) (es : Option (TypeId × Nat)), ((i : Int) ≤ atS l 0 8 ∧ m = (atS l 0 8).toNat - i ∧ cs = ((List.range i).map (costAt l)).map VI ∧ (es = none ∨ es = some (3, 1))) ∧ (s.env.length = 29 ∧ s.sto = sto ++ [.arr es false i cs] ∧ s.env[0]? = some (.v (LI l)) ∧ s.env[3]? = some (.arr sto.length i) ∧ s.env[4]? = some (.v (VI (atS l 0 8))) ∧ s.env[5]? = some (.v (VI i)))) (.adopt _ 3 false rfl hlo) ⟨0, _, _, ⟨by omega, rfl, rfl, .inl rfl⟩, rfl, rfl, ?_, ?_, ?_, ?_⟩ ?_
  all_goals first | rfl | skip
  rintro m s ⟨i, cs, es, ⟨h1, rfl, rfl, h3⟩, hL, hT, k0, k3, k4, k5⟩
  obtain ⟨env, st0⟩ := s; obtain ⟨J, hJ⟩ := listJ hL; rw [show (List.range 29).map J = J 0 :: J 1 :: J 2 :: J 3 :: J 4 :: J 5 :: J 6 :: J 7 :: J 8 :: J 9 :: J 10 :: J 11 :: J 12 :: J 13 :: J 14 :: J 15 :: J 16 :: J 17 :: J 18 :: J 19 :: J 20 :: J 21 :: J 22 :: J 23 :: J 24 :: J 25 :: J 26 :: J 27 :: J 28 :: [] from by kernel_rfl] at hJ; replace k0 := Option.some.inj ((congrArg (·[0]?) hJ).symm.trans k0); replace k3 := Option.some.inj ((congrArg (·[3]?) hJ).symm.trans k3); replace k4 := Option.some.inj ((congrArg (·[4]?) hJ).symm.trans k4); replace k5 := Option.some.inj ((congrArg (·[5]?) hJ).symm.trans k5); rw [k0, k3, k4, k5] at hJ; dsimp only at hJ hT; subst hJ; replace hT := hT.symm; subst hT; clear hL k0 k3 k4 k5
  have hs : (List.range (i + 1)).map (costAt l) = (List.range i).map (costAt l) ++ [costAt l i] := by rw [List.range_succ, List.map_append]; rfl
  by_cases hb : (i : Int) < atS l 0 8
  · (try refine go ⟨?_⟩)
    ((refine call ?_); (refine ⟨_, at_ev _ _ _ hl hx (by omega) (by omega) _ _ (by first | omega | (simp; done) | (simp; omega)), ?_⟩); (try simp only [go_sem]))
    by_cases c1 : atS l ((i : Int) + 1) 12 = 11
    · have hc : costAt l i = atS l ((i : Int) + 2) 1048577 := by simp [costAt, c1]
      (try refine go ⟨?_⟩)
      ((refine call ?_); (refine ⟨_, at_ev _ _ _ hl hx (by omega) (by omega) _ _ (by first | omega | (simp; done) | (simp; omega)), ?_⟩); (try simp only [go_sem]))
      (try refine go ⟨?_⟩)
      refine ⟨_, _, ?_, .refl _, i + 1, _, _, ⟨by omega, rfl, ?_, .inr rfl⟩, rfl, rfl, ?_, ?_, ?_, ?_⟩
      · omega
      · rw [hs, hc]; simp
      all_goals rfl
    · have hc : costAt l i = atS l ((i : Int) + 1) 12 := by simp [costAt, c1]
      (try refine go ⟨?_⟩)
      refine ⟨_, _, ?_, .refl _, i + 1, _, _, ⟨by omega, rfl, ?_, .inr rfl⟩, rfl, rfl, ?_, ?_, ?_, ?_⟩
      · omega
      · rw [hs, hc]; simp
      all_goals rfl
  · (try refine go ⟨?_⟩)
    refine ⟨by first | exact .inr rfl | exact .inl rfl, .inl ⟨[], _, (by dsimp only [Tryd.f9]; exact sv), ?_, by simp⟩⟩
    obtain rfl : i = (atS l 0 8).toNat := by omega
    simp [costsS, LI, SL]
end Go.Proofs.YtgkhcjdpdgfdbaaDoor
namespace Go.Proofs.YtgkhcjdpdgfdbaaDoor
open Go Go.RowKit

attribute [local irreducible] EvOps EvC
attribute [local go_sem] List.flatten_cons List.flatten_nil List.contains_nil
set_option linter.unusedSimpArgs false
set_option linter.unusedVariables false
set_option maxRecDepth 100000
set_option maxHeartbeats 2000000
theorem rowG_length (l : List Int) (tests : Int) (a many : Nat) : (rowG l tests a many).length ≤ many := by
  unfold rowG; split <;> simp
theorem refRows_ev (l : List Int) (tests : Int) (hl : l.length < 9223372036854775808) (hx : ∀ x ∈ l, Big x) (ht : 0 ≤ tests) (ht2 : tests < 1000) (sto : Sto) (lo : Nat) (hlo : lo ≤ sto.length) : CallEv Tryd.prog tab B0 10 [.v (LI l), .v (VI tests)] sto lo (.v (LLI (rowsS l tests))) sto := by
  refine CallEv.intro ⟨_, _, [], Tryd.func10, rfl, by decide, ?_⟩; simp only [go_sem, Tryd.ntmps10]
  have hb0 := atS_bound (l := l) (i := 0) (most := 10) (by omega)
  (try refine go ⟨?_⟩)
  ((refine call ?_); (refine ⟨_, at_ev _ _ _ hl hx (by omega) (by omega) _ _ (by first | omega | (simp; done) | (simp; omega)), ?_⟩); (try simp only [go_sem]))
  (try refine go ⟨?_⟩)
  refine c_loop (fun m s => ∃ (i a : Nat) (acc : List (List Int)) (cs : List V) (es : Option (TypeId × Nat)) (js : List Ent), ((i : Int) ≤ atS l 0 10 ∧ m = (atS l 0 10).toNat - i ∧ a ≤ 1 + 5 * i ∧ acc.length = i ∧ rowsS l tests = acc ++ rowsG l tests ((atS l 0 10).toNat - i) a ∧ cs = acc.map LI ∧ (es = none ∨ es = some (22, 1))) ∧ (s.env.length = 47 ∧ s.sto = sto ++ .arr es false i cs :: js ∧ s.env[0]? = some (.v (LI l)) ∧ s.env[1]? = some (.v (VI tests)) ∧ s.env[5]? = some (.arr sto.length i) ∧ s.env[6]? = some (.v (VI a)) ∧ s.env[7]? = some (.v (VI (atS l 0 10))) ∧ s.env[8]? = some (.v (VI i)))) (.adopt _ 5 false rfl hlo) ⟨0, 1, [], _, _, [], ⟨by omega, rfl, by omega, rfl, rfl, rfl, .inl rfl⟩, rfl, rfl, ?_, ?_, ?_, ?_, ?_, ?_⟩ ?_
  all_goals first | rfl | skip
  rintro m s ⟨i, a, acc, cs, es, js, ⟨h1, rfl, ha, hacc, hg, rfl, h3⟩, hL, hT, k0, k1, k5, k6, k7, k8⟩
  obtain ⟨env, st0⟩ := s; obtain ⟨J, hJ⟩ := listJ hL; rw [show (List.range 47).map J = J 0 :: J 1 :: J 2 :: J 3 :: J 4 :: J 5 :: J 6 :: J 7 :: J 8 :: J 9 :: J 10 :: J 11 :: J 12 :: J 13 :: J 14 :: J 15 :: J 16 :: J 17 :: J 18 :: J 19 :: J 20 :: J 21 :: J 22 :: J 23 :: J 24 :: J 25 :: J 26 :: J 27 :: J 28 :: J 29 :: J 30 :: J 31 :: J 32 :: J 33 :: J 34 :: J 35 :: J 36 :: J 37 :: J 38 :: J 39 :: J 40 :: J 41 :: J 42 :: J 43 :: J 44 :: J 45 :: J 46 :: [] from by kernel_rfl] at hJ; replace k0 := Option.some.inj ((congrArg (·[0]?) hJ).symm.trans k0); replace k1 := Option.some.inj ((congrArg (·[1]?) hJ).symm.trans k1); replace k5 := Option.some.inj ((congrArg (·[5]?) hJ).symm.trans k5); replace k6 := Option.some.inj ((congrArg (·[6]?) hJ).symm.trans k6); replace k7 := Option.some.inj ((congrArg (·[7]?) hJ).symm.trans k7); replace k8 := Option.some.inj ((congrArg (·[8]?) hJ).symm.trans k8); rw [k0, k1, k5, k6, k7, k8] at hJ; dsimp only at hJ hT; subst hJ; replace hT := hT.symm; subst hT; clear hL k0 k1 k5 k6 k7 k8
  by_cases hb : (i : Int) < atS l 0 10
  · have hb1 := atS_bound (l := l) (i := a) (most := 5) (by omega)
    rw [show (atS l 0 10).toNat - i = ((atS l 0 10).toNat - (i + 1)) + 1 from by omega, rowsG] at hg
    (try refine go ⟨?_⟩)
    ((refine call ?_); (refine ⟨_, at_ev _ _ _ hl hx (by omega) (by omega) _ _ (by first | omega | (simp; done) | (simp; omega)), ?_⟩); (try simp only [go_sem]))
    (try refine go ⟨?_⟩)
    refine c_loop (fun m s => ∃ (k a' n' rid : Nat) (cs' : List V) (es' : Option (TypeId × Nat)), ((k : Int) ≤ atS l a 5 ∧ m = (atS l a 5).toNat - k ∧ (a' : Int) = a + 1 + (if 0 < tests then (k : Int) else 0) ∧ (0 < tests ∨ k = 0) ∧ n' = (rowG l tests (a + 1) k).length ∧ rid = sto.length + (js.length + 1) ∧ cs' = (rowG l tests (a + 1) k).map VI ∧ (es' = none ∨ es' = some (3, 1))) ∧ (s.env.length = 47 ∧ s.sto = sto ++ .arr es false i (acc.map LI) :: (js ++ [.arr es' false n' cs']) ∧ s.env[0]? = some (.v (LI l)) ∧ s.env[1]? = some (.v (VI tests)) ∧ s.env[5]? = some (.arr sto.length i) ∧ s.env[6]? = some (.v (VI a')) ∧ s.env[7]? = some (.v (VI (atS l 0 10))) ∧ s.env[8]? = some (.v (VI i)) ∧ s.env[9]? = some (.arr rid n') ∧ s.env[10]? = some (.v (VI (atS l a 5))) ∧ s.env[11]? = some (.v (VI k)))) (.adopt _ 9 false rfl (by simp; omega)) ⟨0, a + 1, 0, sto.length + (js.length + 1), [], none, ⟨by omega, rfl, by split <;> simp, .inr rfl, ?_, rfl, ?_, .inl rfl⟩, rfl, ?_, ?_, ?_, ?_, ?_, ?_, ?_, ?_, ?_, ?_⟩ ?_
    all_goals first | rfl | (unfold rowG; split <;> rfl) | (simp; done) | skip
    rintro m s ⟨k, a', n', rid, cs', es', ⟨g1, rfl, ga, gk, rfl, rfl, rfl, g3⟩, hL, hT, k0, k1, k5, k6, k7, k8, k9, k10, k11⟩
    obtain ⟨env, st0⟩ := s; obtain ⟨J, hJ⟩ := listJ hL; rw [show (List.range 47).map J = J 0 :: J 1 :: J 2 :: J 3 :: J 4 :: J 5 :: J 6 :: J 7 :: J 8 :: J 9 :: J 10 :: J 11 :: J 12 :: J 13 :: J 14 :: J 15 :: J 16 :: J 17 :: J 18 :: J 19 :: J 20 :: J 21 :: J 22 :: J 23 :: J 24 :: J 25 :: J 26 :: J 27 :: J 28 :: J 29 :: J 30 :: J 31 :: J 32 :: J 33 :: J 34 :: J 35 :: J 36 :: J 37 :: J 38 :: J 39 :: J 40 :: J 41 :: J 42 :: J 43 :: J 44 :: J 45 :: J 46 :: [] from by kernel_rfl] at hJ; replace k0 := Option.some.inj ((congrArg (·[0]?) hJ).symm.trans k0); replace k1 := Option.some.inj ((congrArg (·[1]?) hJ).symm.trans k1); replace k5 := Option.some.inj ((congrArg (·[5]?) hJ).symm.trans k5); replace k6 := Option.some.inj ((congrArg (·[6]?) hJ).symm.trans k6); replace k7 := Option.some.inj ((congrArg (·[7]?) hJ).symm.trans k7); replace k8 := Option.some.inj ((congrArg (·[8]?) hJ).symm.trans k8); replace k9 := Option.some.inj ((congrArg (·[9]?) hJ).symm.trans k9); replace k10 := Option.some.inj ((congrArg (·[10]?) hJ).symm.trans k10); replace k11 := Option.some.inj ((congrArg (·[11]?) hJ).symm.trans k11); rw [k0, k1, k5, k6, k7, k8, k9, k10, k11] at hJ; dsimp only at hJ hT; subst hJ; replace hT := hT.symm; subst hT; clear hL k0 k1 k5 k6 k7 k8 k9 k10 k11
    have hrl := rowG_length l tests (a + 1) k
    by_cases hk : (k : Int) < atS l a 5
    · by_cases ht0 : 0 < tests
      · have hb2 := atS_bound (l := l) (i := a') (most := tests) ht0
        rw [if_pos ht0] at ga
        have hs : rowG l tests (a + 1) (k + 1) = rowG l tests (a + 1) k ++ [atS l a' tests] := by
          simp only [rowG, ht0, if_true]
          rw [List.range_succ, List.map_append]
          simp only [List.map_cons, List.map_nil]
          rw [show ((a + 1 + k : Nat) : Int) = a' from by omega]
        clear gk
        (try refine go ⟨?_⟩)
        ((refine call ?_); (refine ⟨_, at_ev _ _ _ hl hx (by omega) (by omega) _ _ (by first | omega | (simp; done) | (simp; omega)), ?_⟩); (try simp only [go_sem]))
        (try refine go ⟨?_⟩)
        refine ⟨_, _, ?_, .refl _, k + 1, a' + 1, _, _, _, _, ⟨by omega, rfl, by rw [if_pos ht0]; omega, .inl ht0, ?_, rfl, ?_, .inr rfl⟩, rfl, rfl, ?_, ?_, ?_, ?_, ?_, ?_, ?_, ?_, ?_⟩
        · omega
        · rw [hs]; simp
        · rw [hs]; simp
        all_goals rfl
      · have hk0 : k = 0 := by omega
        rw [if_neg ht0] at ga
        rw [if_neg ht0] at hg
        have hr0 : ∀ x, rowG l tests (a + 1) x = [] := fun x => by simp [rowG, ht0]
        clear gk
        (try refine go ⟨?_⟩)
        refine ⟨_, _, ?_, .refl _, i + 1, a', acc ++ [rowG l tests (a + 1) k], _, _, _, ⟨by omega, rfl, by omega, by simp [hacc], ?_, ?_, .inr rfl⟩, rfl, rfl, ?_, ?_, ?_, ?_, ?_, ?_⟩
        · omega
        · rw [hg, hr0, hr0, show a + 1 + 0 = a' from by omega]; simp
        · simp [LI, SL]
        all_goals rfl
    · (try refine go ⟨?_⟩)
      refine ⟨_, _, ?_, .refl _, i + 1, a', acc ++ [rowG l tests (a + 1) k], _, _, _, ⟨by omega, rfl, by split at ga <;> omega, by simp [hacc], ?_, ?_, .inr rfl⟩, rfl, rfl, ?_, ?_, ?_, ?_, ?_, ?_⟩
      · omega
      · rw [hg, show (atS l (a : Int) 5).toNat = k from by omega, show a + 1 + (if 0 < tests then k else 0) = a' from by split at ga <;> rename_i h <;> simp [h] <;> omega]; simp
      · simp [LI, SL]
      all_goals rfl
  · (try refine go ⟨?_⟩)
    refine ⟨by first | exact .inr rfl | exact .inl rfl, .inl ⟨[], _, (by dsimp only [Tryd.f10]; exact sv), ?_, by simp⟩⟩
    rw [show (atS l 0 10).toNat - i = 0 from by omega, rowsG, List.append_nil] at hg
    rw [hg]; subst hacc; rfl
end Go.Proofs.YtgkhcjdpdgfdbaaDoor
namespace Go.Proofs.YtgkhcjdpdgfdbaaDoor
open Go Go.RowKit

attribute [local irreducible] EvOps EvC
set_option linter.unusedSimpArgs false
set_option linter.unusedVariables false
set_option maxRecDepth 100000
set_option maxHeartbeats 1000000
theorem toNat_ofInt64 {x : Int} (h : 0 ≤ x ∧ x < 18446744073709551616) : (BitVec.ofInt (IntKind.bits .u64) x).toNat = x.toNat := by
  show (BitVec.ofInt 64 x).toNat = x.toNat
  rw [BitVec.toNat_ofInt]
  omega
@[go_sem] theorem andB {x y : Int} (hx : 0 ≤ x ∧ x < 18446744073709551616) (hy : 0 ≤ y ∧ y < 18446744073709551616) : andI .u64 x y = ((x.toNat &&& y.toNat : Nat) : Int) := by
  have : x.toNat &&& y.toNat < 2 ^ 64 := Nat.and_lt_two_pow _ (by omega)
  rw [andI, BitVec.toNat_and, toNat_ofInt64 hx, toNat_ofInt64 hy, wrapU (by omega)]
@[go_sem] theorem orB {x y : Int} (hx : 0 ≤ x ∧ x < 18446744073709551616) (hy : 0 ≤ y ∧ y < 18446744073709551616) : orI .u64 x y = ((x.toNat ||| y.toNat : Nat) : Int) := by
  have : x.toNat ||| y.toNat < 2 ^ 64 := Nat.or_lt_two_pow (by omega) (by omega)
  rw [orI, BitVec.toNat_or, toNat_ofInt64 hx, toNat_ofInt64 hy, wrapU (by omega)]
theorem negU {b : Nat} (h0 : b ≠ 0) (hb : b < 18446744073709551616) : IntKind.wrap .u64 (0 - (b : Int)) = ((18446744073709551616 - b : Nat) : Int) := by rw [IntKind.wrap_u64]; omega
@[go_sem] theorem pred_toNat (b : Nat) : ((b : Int) - 1).toNat = b - 1 := by omega
theorem tab64_len : Lib.deBruijn64tab.length = 64 := rfl
theorem tab64_getD {m : Nat} (h : m < 64) : Lib.deBruijn64tab[m]? = some (Lib.deBruijn64tab.getD m 0) := by
  rw [List.getD_eq_getElem?_getD, List.getElem?_eq_getElem (by rw [tab64_len]; exact h), Option.getD_some]
theorem tab64_at {m : Nat} (h : m < 64) : (bytesV Lib.deBruijn64tab)[m]? = some (.int .u8 ((Lib.deBruijn64tab.getD m 0 : Nat) : Int)) := by
  rw [bytesV, List.getElem?_map, tab64_getD h, Option.map_some]
theorem tab64_idx {k p q m : Nat} (hk : k < 64) (hp : p = 2 ^ k) (hq : q = p * 285870213051353865 % 18446744073709551616) (hm : m = q / 288230376151711744) : m < 64 ∧ Lib.deBruijn64tab.getD m 0 = k := by
  have h := Lib.deBruijn64_at k hk
  rw [← hp, ← hq, ← hm] at h
  exact h
theorem tab_addr (o : Oper) (ho : o.op = .indexAddr 116 (.global 1) (.tmp 10)) (m : Nat) (hi : m < 64) (sto : Sto) (env : List D) (h : env[10]? = some (.v (.int .u64 (m : Int)))) : evPure tab (opd env) sto o = some (.vp (bytesV Lib.deBruijn64tab) m) := by
  unfold evPure
  rw [ho]
  show evIndexAddr tab sto 116 (opd env (.global 1)) (opd env (.tmp 10)) = _
  simp only [opd, h, Option.getD_some]
  simp (disch := (first | omega | assumption | ((repeat' with_reducible apply And.intro) <;> first | omega | assumption | rfl | (apply Or.inl; rfl) | (apply Or.inr; first | rfl | trivial | fail) | fail) | fail)) only [go_sem, if_pos, if_neg, wrapI, wrapU, decide_eq_true, decide_eq_false, beqT, beqF, bneT, bneF]
theorem tz64_ev (b : Nat) (h0 : b ≠ 0) (hb : b < 18446744073709551616) (sto : Sto) (lo : Nat) (hlo : lo ≤ sto.length) : CallEv Tryd.prog tab B0 71 [.v (VU b)] sto lo (.v (VI (Lib.ctz 64 b : Nat))) sto := by
  refine CallEv.intro ⟨_, _, [], Tryd.func71, rfl, by decide, ?_⟩; simp only [go_sem, Tryd.ntmps71]
  have hneg := negU h0 hb
  have hlow : b &&& (18446744073709551616 - b) = 2 ^ Lib.ctz 64 b := (Lib.lowest_bit 64 b h0 hb).1
  have hlt := (Lib.lowest_bit 64 b h0 hb).2
  (iterate 21 (first | with_reducible (first | refine c_seq ?_ | refine c_block ?_ | refine c_region ?_ | refine c_skip ?_ | refine c_exit ?_ | refine c_ret ?_ | refine then_normal ?_ | refine then_exit ?_ | refine then_ret ?_ | refine block_normal ?_ | refine block_here ?_ | refine block_ret ?_ | refine block_far (by decide) ?_ | refine ops_nil ?_ | refine c_cond_t rfl ?_ | refine c_cond_f rfl ?_) | ((with_reducible apply ops_pure); rfl; (simp (disch := (first | omega | assumption | ((repeat' with_reducible apply And.intro) <;> first | omega | assumption | rfl | (apply Or.inl; rfl) | (apply Or.inr; first | rfl | trivial | fail) | fail) | fail)) only [go_sem, if_pos, if_neg, wrapI, wrapU, decide_eq_true, decide_eq_false, beqT, beqF, bneT, bneF] <;> rfl); simp only [go_sem])))
  simp only [hneg, Int.toNat_natCast, hlow]
  generalize hp : 2 ^ Lib.ctz 64 b = p
  ((with_reducible apply ops_pure); rfl; (simp (disch := (first | omega | assumption | ((repeat' with_reducible apply And.intro) <;> first | omega | assumption | rfl | (apply Or.inl; rfl) | (apply Or.inr; first | rfl | trivial | fail) | fail) | fail)) only [go_sem, if_pos, if_neg, wrapI, wrapU, decide_eq_true, decide_eq_false, beqT, beqF, bneT, bneF] <;> rfl); simp only [go_sem])
  rw [show IntKind.wrap .u64 ((p : Int) * 285870213051353865) = ((p * 285870213051353865 % 18446744073709551616 : Nat) : Int) from by rw [IntKind.wrap_u64]; omega]
  generalize hq : p * 285870213051353865 % 18446744073709551616 = q
  ((with_reducible apply ops_pure); rfl; (simp (disch := (first | omega | assumption | ((repeat' with_reducible apply And.intro) <;> first | omega | assumption | rfl | (apply Or.inl; rfl) | (apply Or.inr; first | rfl | trivial | fail) | fail) | fail)) only [go_sem, if_pos, if_neg, wrapI, wrapU, decide_eq_true, decide_eq_false, beqT, beqF, bneT, bneF] <;> rfl); simp only [go_sem])
  rw [show Int.fdiv (q : Int) (2 ^ min (Int.toNat 58) 64) = ((q / 288230376151711744 : Nat) : Int) from by
    show Int.fdiv _ (2 ^ 58) = _
    rw [Int.fdiv_eq_ediv_of_nonneg _ (by decide)]; omega]
  generalize hm : q / 288230376151711744 = m
  obtain ⟨hi, htab⟩ := tab64_idx hlt hp.symm hq.symm hm.symm
  clear hp hq hm
  have hg := tab64_at hi
  rw [htab] at hg
  clear hneg hlow htab
  refine ops_pure rfl (tab_addr _ (by rfl) m hi _ _ (by rfl)) ?_; simp only [go_sem]
  (with_reducible apply ops_pure); rfl; (simp (disch := (first | omega | assumption | ((repeat' with_reducible apply And.intro) <;> first | omega | assumption | rfl | (apply Or.inl; rfl) | (apply Or.inr; first | rfl | trivial | fail) | fail) | fail)) only [go_sem, if_pos, if_neg, wrapI, wrapU, decide_eq_true, decide_eq_false, beqT, beqF, bneT, bneF]; simp only [hg, Option.map_some] <;> rfl); simp only [go_sem]
  (try refine go ⟨?_⟩)
  refine ⟨by first | exact .inr rfl | exact .inl rfl, .inl ⟨[], _, (by dsimp only [Tryd.f71]; exact sv), ?_, by simp⟩⟩
  rfl
end Go.Proofs.YtgkhcjdpdgfdbaaDoor
namespace Go.Proofs.YtgkhcjdpdgfdbaaDoor
open Go Go.RowKit

attribute [local irreducible] EvOps EvC
attribute [local go_sem] List.getElem?_toArray
set_option linter.unusedSimpArgs false
set_option linter.unusedVariables false
set_option maxRecDepth 100000
set_option maxHeartbeats 2000000
theorem tz_ev (b : Nat) (h0 : b ≠ 0) (hb : b < 18446744073709551616) (sto : Sto) (lo : Nat) (hlo : lo ≤ sto.length) : CallEv Tryd.prog tab B0 60 [.v (VU b)] sto lo (.v (VI (Lib.ctz 64 b : Nat))) sto := by
  have h := tz64_ev b h0 hb sto lo hlo
  generalize Lib.ctz 64 b = k at h ⊢
  refine CallEv.intro ⟨_, _, [], Tryd.func60, rfl, by decide, ?_⟩; simp only [go_sem, Tryd.ntmps60]
  repeat' (first | (refine go ⟨?_⟩) | (((refine call ?_); (refine ⟨_, h, ?_⟩); (try simp only [go_sem]))) | ((first | (refine bsp ?_ ?_) | (refine csp ?_ ?_)); all_goals (intro hb; (fail_if_success (cases hb; done)); (try simp only [decide_eq_true_eq, decide_eq_false_iff_not, beq_iff_eq, bne_iff_ne, ne_eq, beq_eq_false_iff_ne, bne_eq_false_iff_eq, Bool.not_eq_true', Bool.not_eq_false', Bool.and_eq_true, Bool.or_eq_true, Decidable.not_not] at hb); (try simp only [go_sem]))))
  refine ⟨by first | exact .inr rfl | exact .inl rfl, .inl ⟨[], _, (by dsimp only [Tryd.f60]; exact sv), ?_, by simp⟩⟩
  rfl
theorem list_ev (b : Nat) (hb : b < 18446744073709551616) (sto : Sto) (lo : Nat) (hlo : lo ≤ sto.length) : CallEv Tryd.prog tab B0 41 [.v (VU b)] sto lo (.v (LI (ints (bitsN b)))) sto := by
  have hlen : (bitsN b).length ≤ 64 := subsetS_length b 64
  refine CallEv.intro ⟨_, _, [], Tryd.func41, rfl, by decide, ?_⟩; simp only [go_sem, Tryd.ntmps41]
  (try refine go ⟨?_⟩)
  refine c_loop (fun m s => ∃ (c n : Nat) (cs : List V) (out : List Nat) (es : Option (TypeId × Nat)), (c < 18446744073709551616 ∧ m = c + 1 ∧ n = out.length ∧ cs = (ints out).map VI ∧ bitsN b = out ++ bitsN c ∧ (es = none ∨ es = some (3, 1))) ∧ (s.env.length = 16 ∧ s.sto = sto ++ [.arr es false n cs] ∧ s.env[0]? = some (.v (VU c)) ∧ s.env[3]? = some (.arr sto.length n))) (.adopt _ 3 false rfl hlo) ⟨b, _, _, [], _, ⟨hb, rfl, rfl, rfl, rfl, .inl rfl⟩, rfl, rfl, ?_, ?_⟩ ?_
  all_goals first | rfl | skip
  rintro m s ⟨c, n, cs, out, es, ⟨hc, rfl, rfl, rfl, h2, h3⟩, hL, hT, k0, k3⟩
  obtain ⟨env, st0⟩ := s; obtain ⟨J, hJ⟩ := listJ hL; rw [show (List.range 16).map J = J 0 :: J 1 :: J 2 :: J 3 :: J 4 :: J 5 :: J 6 :: J 7 :: J 8 :: J 9 :: J 10 :: J 11 :: J 12 :: J 13 :: J 14 :: J 15 :: [] from by kernel_rfl] at hJ; replace k0 := Option.some.inj ((congrArg (·[0]?) hJ).symm.trans k0); replace k3 := Option.some.inj ((congrArg (·[3]?) hJ).symm.trans k3); rw [k0, k3] at hJ; dsimp only at hJ hT; subst hJ; replace hT := hT.symm; subst hT; clear hL k0 k3
  by_cases h0 : c = 0
  · subst h0
    (try refine go ⟨?_⟩)
    refine ⟨by first | exact .inr rfl | exact .inl rfl, .inl ⟨[], _, (by dsimp only [Tryd.f41]; exact sv), ?_, by simp⟩⟩
    rw [h2, bitsN_zero, List.append_nil, LI_ints]
  · have hst := bits_step h0 hc
    have hlt := and_pred_lt h0
    rw [hst] at h2
    have hol : out.length < 64 := by
      have := congrArg List.length h2
      simp at this
      omega
    have hpp : c - 1 < 18446744073709551616 := by omega
    have h2h := Lib.hid h2
    clear h2 hst
    have hz := fun sto lo hlo => tz_ev c h0 hc sto lo hlo
    generalize Lib.ctz 64 c = k at hz h2h
    have e1 : IntKind.wrap .u64 ((c : Int) - 1) = ((c - 1 : Nat) : Int) := by rw [IntKind.wrap_u64]; omega
    (try refine go ⟨?_⟩)
    ((refine call ?_); (refine ⟨_, hz _ _ (by first | omega | (simp; done) | (simp; omega)), ?_⟩); (try simp only [go_sem]))
    (try refine go ⟨?_⟩)
    have h2 : bitsN b = out ++ k :: bitsN (c &&& (c - 1)) := h2h
    refine ⟨_, _, ?_, .refl _, c &&& (c - 1), _, _, out ++ [k], _, ⟨by omega, rfl, ?_, ?_, ?_, .inr rfl⟩, rfl, rfl, ?_, ?_⟩
    · omega
    · simp
    · simp
    · rw [h2]; simp
    all_goals rfl
/-- A problem: the rows' sets, the costs. -/
abbrev PV (ms : List Nat) (cost : List Int) : V := .agg [SL VU ms, LI cost]
theorem price_ev (ms : List Nat) (cost : List Int) (b : Nat) (hb : b < 18446744073709551616) (hc : CostOK cost) (hbits : In cost.length (ints (bitsN b))) (sto : Sto) (lo : Nat) (hlo : lo ≤ sto.length) : CallEv Tryd.prog tab B0 34 [.v (PV ms cost), .v (VU b)] sto lo (.v (VI (priceS cost (ints (bitsN b))))) sto := by
  have hlen : (ints (bitsN b)).length ≤ 64 := by simpa using subsetS_length b 64
  have hl := fun sto lo hlo => list_ev b hb sto lo hlo
  generalize ints (bitsN b) = ts at hl hbits hlen ⊢
  refine CallEv.intro ⟨_, _, [], Tryd.func34, rfl, by decide, ?_⟩; simp only [go_sem, Tryd.ntmps34]
  repeat' (first | (refine go ⟨?_⟩) | (((refine call ?_); (refine ⟨_, hl _ _ (by first | omega | (simp; done) | (simp; omega)), ?_⟩); (try simp only [go_sem]))) | ((first | (refine bsp ?_ ?_) | (refine csp ?_ ?_)); all_goals (intro hb; (fail_if_success (cases hb; done)); (try simp only [decide_eq_true_eq, decide_eq_false_iff_not, beq_iff_eq, bne_iff_ne, ne_eq, beq_eq_false_iff_ne, bne_eq_false_iff_eq, Bool.not_eq_true', Bool.not_eq_false', Bool.and_eq_true, Bool.or_eq_true, Decidable.not_not] at hb); (try simp only [go_sem]))))
  refine c_loop (fun m s => ∃ i : Nat, (i ≤ ts.length ∧ m = ts.length - i) ∧ (s.env.length = 24 ∧ s.sto = sto ++ [.cells [.v (SL VU ms), .v (LI cost)]] ∧ s.env[1]? = some (.v (VU b)) ∧ s.env[2]? = some (.ptr sto.length 0) ∧ s.env[5]? = some (.v (VI (priceS cost (ts.take i)))) ∧ s.env[9]? = some (.v (LI ts)) ∧ s.env[10]? = some (.v (VI ts.length)) ∧ s.env[11]? = some (.v (VI i)))) (.refl _) ⟨0, ⟨by omega, rfl⟩, rfl, rfl, ?_, ?_, ?_, ?_, ?_, ?_⟩ ?_
  all_goals first | rfl | skip
  rintro m s ⟨i, ⟨h1, rfl⟩, hL, hT, k1, k2, k5, k9, k10, k11⟩
  obtain ⟨env, st0⟩ := s; obtain ⟨J, hJ⟩ := listJ hL; rw [show (List.range 24).map J = J 0 :: J 1 :: J 2 :: J 3 :: J 4 :: J 5 :: J 6 :: J 7 :: J 8 :: J 9 :: J 10 :: J 11 :: J 12 :: J 13 :: J 14 :: J 15 :: J 16 :: J 17 :: J 18 :: J 19 :: J 20 :: J 21 :: J 22 :: J 23 :: [] from by kernel_rfl] at hJ; replace k1 := Option.some.inj ((congrArg (·[1]?) hJ).symm.trans k1); replace k2 := Option.some.inj ((congrArg (·[2]?) hJ).symm.trans k2); replace k5 := Option.some.inj ((congrArg (·[5]?) hJ).symm.trans k5); replace k9 := Option.some.inj ((congrArg (·[9]?) hJ).symm.trans k9); replace k10 := Option.some.inj ((congrArg (·[10]?) hJ).symm.trans k10); replace k11 := Option.some.inj ((congrArg (·[11]?) hJ).symm.trans k11); rw [k1, k2, k5, k9, k10, k11] at hJ; dsimp only at hJ hT; subst hJ; replace hT := hT.symm; subst hT; clear hL k1 k2 k5 k9 k10 k11
  by_cases hi : i < ts.length
  · have hti := hbits ts[i] (List.getElem_mem hi)
    have hp := priceS_bound hc (ts.take i)
    have hq := cAt_bound hc ts[i]
    have htl : (ts.take i).length ≤ 64 := by simp; omega
    have hce : cost[ts[i].toNat]'(by omega) = cAt cost ts[i] := cAt_eq (by omega)
    have hq2 : 0 ≤ cost[ts[i].toNat]'(by omega) ∧ cost[ts[i].toNat]'(by omega) ≤ 1048576 := by rw [hce]; exact hq
    have hnext : priceS cost (ts.take (i + 1)) = priceS cost (ts.take i) + cAt cost ts[i] := by
      rw [List.take_succ_eq_append_getElem hi, priceS_append]; simp [priceS]
    generalize priceS cost (ts.take i) = acc at *
    have hn := Lib.hid (And.intro hnext hce)
    clear hnext hce
    repeat' (first | (refine go ⟨?_⟩) | (fail) | ((first | (refine bsp ?_ ?_) | (refine csp ?_ ?_)); all_goals (intro hb; (fail_if_success (cases hb; done)); (try simp only [decide_eq_true_eq, decide_eq_false_iff_not, beq_iff_eq, bne_iff_ne, ne_eq, beq_eq_false_iff_ne, bne_eq_false_iff_eq, Bool.not_eq_true', Bool.not_eq_false', Bool.and_eq_true, Bool.or_eq_true, Decidable.not_not] at hb); (try simp only [go_sem]))))
    refine ⟨_, _, ?_, .refl _, i + 1, ⟨by omega, rfl⟩, rfl, rfl, ?_, ?_, ?_, ?_, ?_, ?_⟩
    · omega
    all_goals first | rfl | (obtain ⟨hn1, hn2⟩ := hn; rw [hn1, ← hn2]; rfl)
  · repeat' (first | (refine go ⟨?_⟩) | (fail) | ((first | (refine bsp ?_ ?_) | (refine csp ?_ ?_)); all_goals (intro hb; (fail_if_success (cases hb; done)); (try simp only [decide_eq_true_eq, decide_eq_false_iff_not, beq_iff_eq, bne_iff_ne, ne_eq, beq_eq_false_iff_ne, bne_eq_false_iff_eq, Bool.not_eq_true', Bool.not_eq_false', Bool.and_eq_true, Bool.or_eq_true, Decidable.not_not] at hb); (try simp only [go_sem]))))
    refine ⟨by first | exact .inr rfl | exact .inl rfl, .inl ⟨[], _, (by dsimp only [Tryd.f34]; exact sv), ?_, by simp⟩⟩
    rw [List.take_of_length_le (by omega)]
theorem cheapest_ev (ms : List Nat) (cost : List Int) (b : Nat) (hb : b < 18446744073709551616) (hbits : In cost.length (ints (bitsN b))) (sto : Sto) (lo : Nat) (hlo : lo ≤ sto.length) : CallEv Tryd.prog tab B0 37 [.v (PV ms cost), .v (VU b)] sto lo (.v (VI (cheapS cost (ints (bitsN b))))) sto := by
  have hlen : (ints (bitsN b)).length ≤ 64 := by simpa using subsetS_length b 64
  have hl := fun sto lo hlo => list_ev b hb sto lo hlo
  generalize ints (bitsN b) = ts at hl hbits hlen ⊢
  refine CallEv.intro ⟨_, _, [], Tryd.func37, rfl, by decide, ?_⟩; simp only [go_sem, Tryd.ntmps37]
  repeat' (first | (refine go ⟨?_⟩) | (((refine call ?_); (refine ⟨_, hl _ _ (by first | omega | (simp; done) | (simp; omega)), ?_⟩); (try simp only [go_sem]))) | ((first | (refine bsp ?_ ?_) | (refine csp ?_ ?_)); all_goals (intro hb; (fail_if_success (cases hb; done)); (try simp only [decide_eq_true_eq, decide_eq_false_iff_not, beq_iff_eq, bne_iff_ne, ne_eq, beq_eq_false_iff_ne, bne_eq_false_iff_eq, Bool.not_eq_true', Bool.not_eq_false', Bool.and_eq_true, Bool.or_eq_true, Decidable.not_not] at hb); (try simp only [go_sem]))))
  refine c_loop (fun m s => ∃ i : Nat, (i ≤ ts.length ∧ m = ts.length - i) ∧ (s.env.length = 24 ∧ s.sto = sto ++ [.cells [.v (SL VU ms), .v (LI cost)]] ∧ s.env[1]? = some (.v (VU b)) ∧ s.env[2]? = some (.ptr sto.length 0) ∧ s.env[5]? = some (.v (VI (cheapS cost (ts.take i)))) ∧ s.env[9]? = some (.v (LI ts)) ∧ s.env[10]? = some (.v (VI ts.length)) ∧ s.env[11]? = some (.v (VI i)))) (.refl _) ⟨0, ⟨by omega, rfl⟩, rfl, rfl, ?_, ?_, ?_, ?_, ?_, ?_⟩ ?_
  all_goals first | rfl | skip
  rintro m s ⟨i, ⟨h1, rfl⟩, hL, hT, k1, k2, k5, k9, k10, k11⟩
  obtain ⟨env, st0⟩ := s; obtain ⟨J, hJ⟩ := listJ hL; rw [show (List.range 24).map J = J 0 :: J 1 :: J 2 :: J 3 :: J 4 :: J 5 :: J 6 :: J 7 :: J 8 :: J 9 :: J 10 :: J 11 :: J 12 :: J 13 :: J 14 :: J 15 :: J 16 :: J 17 :: J 18 :: J 19 :: J 20 :: J 21 :: J 22 :: J 23 :: [] from by kernel_rfl] at hJ; replace k1 := Option.some.inj ((congrArg (·[1]?) hJ).symm.trans k1); replace k2 := Option.some.inj ((congrArg (·[2]?) hJ).symm.trans k2); replace k5 := Option.some.inj ((congrArg (·[5]?) hJ).symm.trans k5); replace k9 := Option.some.inj ((congrArg (·[9]?) hJ).symm.trans k9); replace k10 := Option.some.inj ((congrArg (·[10]?) hJ).symm.trans k10); replace k11 := Option.some.inj ((congrArg (·[11]?) hJ).symm.trans k11); rw [k1, k2, k5, k9, k10, k11] at hJ; dsimp only at hJ hT; subst hJ; replace hT := hT.symm; subst hT; clear hL k1 k2 k5 k9 k10 k11
  by_cases hi : i < ts.length
  · have hti := hbits ts[i] (List.getElem_mem hi)
    have hce : cost[ts[i].toNat]'(by omega) = cAt cost ts[i] := cAt_eq (by omega)
    have hnext : cheapS cost (ts.take (i + 1)) = min (cheapS cost (ts.take i)) (cAt cost ts[i]) := by
      rw [List.take_succ_eq_append_getElem hi, cheapS, List.foldl_append]; rfl
    generalize cheapS cost (ts.take i) = acc at *
    have hn := Lib.hid (And.intro hnext hce)
    clear hnext hce
    repeat' (first | (refine go ⟨?_⟩) | (fail) | ((first | (refine bsp ?_ ?_) | (refine csp ?_ ?_)); all_goals (intro hb; (fail_if_success (cases hb; done)); (try simp only [decide_eq_true_eq, decide_eq_false_iff_not, beq_iff_eq, bne_iff_ne, ne_eq, beq_eq_false_iff_ne, bne_eq_false_iff_eq, Bool.not_eq_true', Bool.not_eq_false', Bool.and_eq_true, Bool.or_eq_true, Decidable.not_not] at hb); (try simp only [go_sem]))))
    refine ⟨_, _, ?_, .refl _, i + 1, ⟨by omega, rfl⟩, rfl, rfl, ?_, ?_, ?_, ?_, ?_, ?_⟩
    · omega
    all_goals first | rfl | (obtain ⟨hn1, hn2⟩ := hn; rw [hn1, ← hn2]; simp only [List.getElem?_cons_succ, List.getElem?_cons_zero, Option.some.injEq, D.v.injEq, V.int.injEq, true_and]; omega)
  · repeat' (first | (refine go ⟨?_⟩) | (fail) | ((first | (refine bsp ?_ ?_) | (refine csp ?_ ?_)); all_goals (intro hb; (fail_if_success (cases hb; done)); (try simp only [decide_eq_true_eq, decide_eq_false_iff_not, beq_iff_eq, bne_iff_ne, ne_eq, beq_eq_false_iff_ne, bne_eq_false_iff_eq, Bool.not_eq_true', Bool.not_eq_false', Bool.and_eq_true, Bool.or_eq_true, Decidable.not_not] at hb); (try simp only [go_sem]))))
    refine ⟨by first | exact .inr rfl | exact .inl rfl, .inl ⟨[], _, (by dsimp only [Tryd.f37]; exact sv), ?_, by simp⟩⟩
    rw [List.take_of_length_le (by omega)]
/-- The rows that a set leaves. -/
def leftN (ms : List Nat) (b : Nat) : List Nat := (List.range ms.length).filter fun i => decide (ms.getD i 0 ≠ 0) && decide (ms.getD i 0 &&& b = 0)
theorem leftN_length (ms : List Nat) (b : Nat) : (leftN ms b).length ≤ ms.length := by
  have := List.length_filter_le (fun i => decide (ms.getD i 0 ≠ 0) && decide (ms.getD i 0 &&& b = 0)) (List.range ms.length)
  rwa [List.length_range] at this
theorem left_ev (ms : List Nat) (cost : List Int) (b : Nat) (hb : b < 18446744073709551616) (hm : ms.length < 1000000) (hms : ∀ r ∈ ms, r < 18446744073709551616) (sto : Sto) (lo : Nat) (hlo : lo ≤ sto.length) : CallEv Tryd.prog tab B0 36 [.v (PV ms cost), .v (VU b)] sto lo (.v (LI (ints (leftN ms b)))) sto := by
  refine CallEv.intro ⟨_, _, [], Tryd.func36, rfl, by decide, ?_⟩; simp only [go_sem, Tryd.ntmps36]
  (try refine go ⟨?_⟩)
  refine c_loop (fun m s => ∃ (i n : Nat) (cs : List V) (es : Option (TypeId × Nat)), (i ≤ ms.length ∧ m = ms.length - i ∧ n = ((List.range i).filter fun i => decide (ms.getD i 0 ≠ 0) && decide (ms.getD i 0 &&& b = 0)).length ∧ cs = (ints ((List.range i).filter fun i => decide (ms.getD i 0 ≠ 0) && decide (ms.getD i 0 &&& b = 0))).map VI ∧ (es = none ∨ es = some (3, 1))) ∧ (s.env.length = 30 ∧ s.sto = sto ++ [.cells [.v (SL VU ms), .v (LI cost)], .arr es false n cs] ∧ s.env[1]? = some (.v (VU b)) ∧ s.env[2]? = some (.ptr sto.length 0) ∧ s.env[5]? = some (.arr (sto.length + 1) n) ∧ s.env[9]? = some (.v (SL VU ms)) ∧ s.env[10]? = some (.v (VI ms.length)) ∧ s.env[11]? = some (.v (VI i)))) (.adopt _ 5 false rfl (by simp; omega)) ⟨0, _, _, _, ⟨by omega, rfl, rfl, rfl, .inl rfl⟩, rfl, ?_, ?_, ?_, ?_, ?_, ?_, ?_⟩ ?_
  all_goals first | rfl | (simp; done) | skip
  rintro m s ⟨i, n, cs, es, ⟨h1, rfl, rfl, rfl, h3⟩, hL, hT, k1, k2, k5, k9, k10, k11⟩
  obtain ⟨env, st0⟩ := s; obtain ⟨J, hJ⟩ := listJ hL; rw [show (List.range 30).map J = J 0 :: J 1 :: J 2 :: J 3 :: J 4 :: J 5 :: J 6 :: J 7 :: J 8 :: J 9 :: J 10 :: J 11 :: J 12 :: J 13 :: J 14 :: J 15 :: J 16 :: J 17 :: J 18 :: J 19 :: J 20 :: J 21 :: J 22 :: J 23 :: J 24 :: J 25 :: J 26 :: J 27 :: J 28 :: J 29 :: [] from by kernel_rfl] at hJ; replace k1 := Option.some.inj ((congrArg (·[1]?) hJ).symm.trans k1); replace k2 := Option.some.inj ((congrArg (·[2]?) hJ).symm.trans k2); replace k5 := Option.some.inj ((congrArg (·[5]?) hJ).symm.trans k5); replace k9 := Option.some.inj ((congrArg (·[9]?) hJ).symm.trans k9); replace k10 := Option.some.inj ((congrArg (·[10]?) hJ).symm.trans k10); replace k11 := Option.some.inj ((congrArg (·[11]?) hJ).symm.trans k11); rw [k1, k2, k5, k9, k10, k11] at hJ; dsimp only at hJ hT; subst hJ; replace hT := hT.symm; subst hT; clear hL k1 k2 k5 k9 k10 k11
  have hn : ((List.range i).filter fun i => decide (ms.getD i 0 ≠ 0) && decide (ms.getD i 0 &&& b = 0)).length ≤ i := by
    have := List.length_filter_le (fun i => decide (ms.getD i 0 ≠ 0) && decide (ms.getD i 0 &&& b = 0)) (List.range i)
    rwa [List.length_range] at this
  by_cases hi : i < ms.length
  · have hri := hms ms[i] (List.getElem_mem hi)
    have hg : ms.getD i 0 = ms[i] := by simp [List.getD, hi]
    have hs : (List.range (i + 1)).filter (fun i => decide (ms.getD i 0 ≠ 0) && decide (ms.getD i 0 &&& b = 0)) = (List.range i).filter (fun i => decide (ms.getD i 0 ≠ 0) && decide (ms.getD i 0 &&& b = 0)) ++ if ms[i] ≠ 0 ∧ ms[i] &&& b = 0 then [i] else [] := by
      rw [List.range_succ, List.filter_append]
      congr 1
      by_cases h : ms[i] ≠ 0 ∧ ms[i] &&& b = 0 <;> simp only [List.filter_cons, List.filter_nil, hg, h, Bool.and_eq_true, decide_eq_true_eq, if_true, if_false]
    have hsh := Lib.hid hs
    clear hs hg
    generalize hL : (List.range i).filter (fun i => decide (ms.getD i 0 ≠ 0) && decide (ms.getD i 0 &&& b = 0)) = L at *
    clear hL
    repeat' (first | (refine go ⟨?_⟩) | (fail) | ((first | (refine bsp ?_ ?_) | (refine csp ?_ ?_)); all_goals (intro hb; (fail_if_success (cases hb; done)); (try simp only [decide_eq_true_eq, decide_eq_false_iff_not, beq_iff_eq, bne_iff_ne, ne_eq, beq_eq_false_iff_ne, bne_eq_false_iff_eq, Bool.not_eq_true', Bool.not_eq_false', Bool.and_eq_true, Bool.or_eq_true, Decidable.not_not] at hb); (try simp only [go_sem]))))
    · have hs : _ = _ := hsh
      rw [if_pos ⟨by omega, by omega⟩] at hs
      refine ⟨_, _, ?_, .refl _, i + 1, _, _, _, ⟨by omega, rfl, ?_, ?_, .inr rfl⟩, rfl, rfl, ?_, ?_, ?_, ?_, ?_, ?_⟩
      · omega
      · rw [hs]; simp
      · rw [hs]; simp
      all_goals rfl
    · have hs : _ = _ := hsh
      rw [if_neg (by omega), List.append_nil] at hs
      refine ⟨_, _, ?_, .refl _, i + 1, _, _, _, ⟨by omega, rfl, ?_, ?_, h3⟩, rfl, rfl, ?_, ?_, ?_, ?_, ?_, ?_⟩
      · omega
      · rw [hs]
      · rw [hs]
      all_goals rfl
    · have hs : _ = _ := hsh
      rw [if_neg (by omega), List.append_nil] at hs
      refine ⟨_, _, ?_, .refl _, i + 1, _, _, _, ⟨by omega, rfl, ?_, ?_, h3⟩, rfl, rfl, ?_, ?_, ?_, ?_, ?_, ?_⟩
      · omega
      · rw [hs]
      · rw [hs]
      all_goals rfl
  · repeat' (first | (refine go ⟨?_⟩) | (fail) | ((first | (refine bsp ?_ ?_) | (refine csp ?_ ?_)); all_goals (intro hb; (fail_if_success (cases hb; done)); (try simp only [decide_eq_true_eq, decide_eq_false_iff_not, beq_iff_eq, bne_iff_ne, ne_eq, beq_eq_false_iff_ne, bne_eq_false_iff_eq, Bool.not_eq_true', Bool.not_eq_false', Bool.and_eq_true, Bool.or_eq_true, Decidable.not_not] at hb); (try simp only [go_sem]))))
    refine ⟨by first | exact .inr rfl | exact .inl rfl, .inl ⟨[], _, (by dsimp only [Tryd.f36]; exact sv), ?_, by simp⟩⟩
    obtain rfl : i = ms.length := by omega
    rw [LI_ints]; rfl
end Go.Proofs.YtgkhcjdpdgfdbaaDoor
namespace Go.Proofs.YtgkhcjdpdgfdbaaDoor
open Go Go.RowKit

attribute [local irreducible] EvOps EvC
attribute [local go_sem] List.getElem?_toArray
set_option linter.unusedSimpArgs false
set_option linter.unusedVariables false
set_option maxRecDepth 100000
set_option maxHeartbeats 2000000
theorem ones64_ev (b : Nat) (hb : b < 256) (sto : Sto) (lo : Nat) (hlo : lo ≤ sto.length) : CallEv Tryd.prog tab B0 59 [.v (VU b)] sto lo (.v (VI ((bitsN b).length : Nat))) sto := by
  refine CallEv.intro ⟨_, _, [], Tryd.func59, rfl, by decide, ?_⟩; simp only [go_sem, Tryd.ntmps59]
  repeat' (first | (refine go ⟨?_⟩) | (fail) | ((first | (refine bsp ?_ ?_) | (refine csp ?_ ?_)); all_goals (intro hb; (fail_if_success (cases hb; done)); (try simp only [decide_eq_true_eq, decide_eq_false_iff_not, beq_iff_eq, bne_iff_ne, ne_eq, beq_eq_false_iff_ne, bne_eq_false_iff_eq, Bool.not_eq_true', Bool.not_eq_false', Bool.and_eq_true, Bool.or_eq_true, Decidable.not_not] at hb); (try simp only [go_sem]))))
  refine ⟨by first | exact .inr rfl | exact .inl rfl, .inl ⟨[], _, (by dsimp only [Tryd.f59]; exact sv), ?_, by simp⟩⟩
  congr 2
  revert b
  decide
theorem ones_ev (b : Nat) (hb : b < 256) (sto : Sto) (lo : Nat) (hlo : lo ≤ sto.length) : CallEv Tryd.prog tab B0 40 [.v (VU b)] sto lo (.v (VI ((bitsN b).length : Nat))) sto := by
  have h := ones64_ev b hb sto lo hlo
  generalize (bitsN b).length = n at h ⊢
  refine CallEv.intro ⟨_, _, [], Tryd.func40, rfl, by decide, ?_⟩; simp only [go_sem, Tryd.ntmps40]
  repeat' (first | (refine go ⟨?_⟩) | (((refine call ?_); (refine ⟨_, h, ?_⟩); (try simp only [go_sem]))) | ((first | (refine bsp ?_ ?_) | (refine csp ?_ ?_)); all_goals (intro hb; (fail_if_success (cases hb; done)); (try simp only [decide_eq_true_eq, decide_eq_false_iff_not, beq_iff_eq, bne_iff_ne, ne_eq, beq_eq_false_iff_ne, bne_eq_false_iff_eq, Bool.not_eq_true', Bool.not_eq_false', Bool.and_eq_true, Bool.or_eq_true, Decidable.not_not] at hb); (try simp only [go_sem]))))
  refine ⟨by first | exact .inr rfl | exact .inl rfl, .inl ⟨[], _, (by dsimp only [Tryd.f40]; exact sv), ?_, by simp⟩⟩
  rfl
/-- Whether a set is before another one, with their costs. -/
def beforeN (a b : Nat) (x y : Int) : Bool := if x ≠ y then decide (x < y) else if (bitsN a).length ≠ (bitsN b).length then decide ((bitsN a).length < (bitsN b).length) else decide (cmpL (ints (bitsN a)) (ints (bitsN b)) < 0)
theorem before_ev (a b : Nat) (x y : Int) (ha : a < 256) (hb : b < 256) (sto : Sto) (lo : Nat) (hlo : lo ≤ sto.length) : CallEv Tryd.prog tab B0 57 [.v (VU a), .v (VU b), .v (VI x), .v (VI y)] sto lo (.v (.bool (beforeN a b x y))) sto := by
  have h1 := fun sto lo hlo => ones_ev a ha sto lo hlo
  have h2 := fun sto lo hlo => ones_ev b hb sto lo hlo
  have h3 := fun sto lo hlo => list_ev a (by omega) sto lo hlo
  have h4 := fun sto lo hlo => list_ev b (by omega) sto lo hlo
  have l1 : (ints (bitsN a)).length < 4611686018427387904 := by have h : (bitsN a).length ≤ 64 := subsetS_length a 64; simp only [List.length_map]; omega
  have l2 : (ints (bitsN b)).length < 4611686018427387904 := by have h : (bitsN b).length ≤ 64 := subsetS_length b 64; simp only [List.length_map]; omega
  have h5 := fun sto lo hlo => compareL_ev _ _ l1 l2 sto lo hlo
  unfold beforeN
  clear l1 l2
  generalize ints (bitsN a) = la at *
  generalize ints (bitsN b) = lb at *
  generalize (bitsN a).length = na at *
  generalize (bitsN b).length = nb at *
  generalize cmpL la lb = c at *
  refine CallEv.intro ⟨_, _, [], Tryd.func57, rfl, by decide, ?_⟩; simp only [go_sem, Tryd.ntmps57]
  repeat' (first | (refine go ⟨?_⟩) | (first | ((refine call ?_); (refine ⟨_, h1 _ _ (by first | omega | (simp; done) | (simp; omega)), ?_⟩); (try simp only [go_sem])) | ((refine call ?_); (refine ⟨_, h2 _ _ (by first | omega | (simp; done) | (simp; omega)), ?_⟩); (try simp only [go_sem])) | ((refine call ?_); (refine ⟨_, h3 _ _ (by first | omega | (simp; done) | (simp; omega)), ?_⟩); (try simp only [go_sem])) | ((refine call ?_); (refine ⟨_, h4 _ _ (by first | omega | (simp; done) | (simp; omega)), ?_⟩); (try simp only [go_sem])) | ((refine call ?_); (refine ⟨_, h5 _ _ (by first | omega | (simp; done) | (simp; omega)), ?_⟩); (try simp only [go_sem]))) | ((first | (refine bsp ?_ ?_) | (refine csp ?_ ?_)); all_goals (intro hb; (fail_if_success (cases hb; done)); (try simp only [decide_eq_true_eq, decide_eq_false_iff_not, beq_iff_eq, bne_iff_ne, ne_eq, beq_eq_false_iff_ne, bne_eq_false_iff_eq, Bool.not_eq_true', Bool.not_eq_false', Bool.and_eq_true, Bool.or_eq_true, Decidable.not_not] at hb); (try simp only [go_sem]))))
  all_goals (refine ⟨by first | exact .inr rfl | exact .inl rfl, .inl ⟨[], _, (by dsimp only [Tryd.f57]; exact sv), ?_, by simp⟩⟩)
  · rw [if_pos (by omega)]
  · rw [if_neg (by omega), if_pos (by omega)]; simp
  · rw [if_neg (by omega), if_neg (by omega)]
end Go.Proofs.YtgkhcjdpdgfdbaaDoor
namespace Go.Proofs.YtgkhcjdpdgfdbaaDoor
open Go Go.RowKit

attribute [local irreducible] EvOps EvC
attribute [local go_sem] List.getElem?_toArray
set_option linter.unusedSimpArgs false
set_option linter.unusedVariables false
set_option maxRecDepth 100000
set_option maxHeartbeats 4000000
/-- A row of a matrix, of which only the kills count. -/
def rowC (r : List Int) : List V := [.sl 0 [], LI r, VI 0, VI 0, VI 0, VI 0, .sl 0 [], .sl 0 [], .sl 0 [], VI 0, VI 0, .sl 0 [], .sl 0 [], .sl 0 [], VI 0, VI 0, VI 0, VI 0, .sl 0 [], .sl 0 []]
theorem rowC_length (r : List Int) : (rowC r).length = 20 := rfl
def rowsC : List (List Int) → List V
  | [] => []
  | r :: rs => rowC r ++ rowsC rs
@[go_sem] theorem rowsC_length : ∀ l : List (List Int), (rowsC l).length = l.length * 20
  | [] => rfl
  | r :: rs => by rw [rowsC, List.length_append, rowC_length, rowsC_length rs, List.length_cons]; omega
@[go_sem] theorem rowsC_at : ∀ {l : List (List Int)} {i : Nat} (h : i < l.length), ((rowsC l).drop (i * 20)).take 20 = rowC l[i]
  | r :: rs, 0, _ => by simp [rowsC, rowC]
  | r :: rs, i + 1, h => by
    have := rowsC_at (l := rs) (i := i) (by simpa using h)
    simp only [rowsC, List.getElem_cons_succ]
    rw [← this, show (i + 1) * 20 = (rowC r).length + i * 20 from by rw [rowC_length]; omega, List.drop_append, List.drop_of_length_le (by omega), List.nil_append, Nat.add_sub_cancel_left]
abbrev MV (rows : List (List Int)) : V := .agg [.sl rows.length (rowsC rows)]
/-- Whether the rows and the costs are possible, as the package looks. -/
def ofOK (rows : List (List Int)) (cost : List Int) : Bool := possS rows cost
theorem shlU {t : Int} (h0 : 0 ≤ t) (h1 : t < 64) : IntKind.wrap .u64 (1 * 2 ^ min t.toNat (IntKind.bits .u64)) = ((2 ^ t.toNat : Nat) : Int) := by
  have hb : IntKind.bits .u64 = 64 := rfl
  obtain ⟨n, rfl⟩ := Int.eq_ofNat_of_zero_le h0
  have h2 : 2 ^ n ≤ 2 ^ 63 := Nat.pow_le_pow_right (by omega) (by omega)
  rw [hb, Int.toNat_natCast, Nat.min_eq_left (by omega), Int.one_mul, IntKind.wrap_u64]
  have : ((2 : Int) ^ n) = ((2 ^ n : Nat) : Int) := by simp
  rw [this]
  generalize 2 ^ n = q at *
  omega
theorem orMask {a : Nat} {t : Int} (ha : a < 18446744073709551616) (h0 : 0 ≤ t) (h1 : t < 64) : orI .u64 (a : Int) (IntKind.wrap .u64 (1 * 2 ^ min t.toNat 64)) = ((a ||| 2 ^ t.toNat : Nat) : Int) := by
  have e := shlU h0 h1
  rw [show IntKind.bits .u64 = 64 from rfl] at e
  have hlt : 2 ^ t.toNat < 18446744073709551616 := Nat.pow_lt_pow_right (a := 2) (m := t.toNat) (n := 64) (by omega) (by omega)
  generalize 2 ^ t.toNat = q at *
  rw [e, orB (by omega) (by omega)]
  simp
theorem shlI {n : Nat} (h1 : n < 62) : IntKind.wrap .i64 (1 * 2 ^ min (Int.toNat (n : Int)) (IntKind.bits .i64)) = ((2 ^ n : Nat) : Int) := by
  have hb : IntKind.bits .i64 = 64 := rfl
  have h2 : 2 ^ n ≤ 2 ^ 61 := Nat.pow_le_pow_right (by omega) (by omega)
  rw [hb, Int.toNat_natCast, Nat.min_eq_left (by omega), Int.one_mul, IntKind.wrap_i64]
  have : ((2 : Int) ^ n) = ((2 ^ n : Nat) : Int) := by simp
  rw [this]
  generalize 2 ^ n = q at *
  omega
theorem mask_take {row : List Int} {i : Nat} (h : i < row.length) : maskS (row.take (i + 1)) = maskS (row.take i) ||| 2 ^ row[i].toNat := by
  rw [List.take_succ_eq_append_getElem h, maskS, List.foldl_append]; rfl
def okRow (n : Nat) (r : List Int) : Bool := r.all fun t => decide (0 ≤ t) && decide (t < n)
theorem okRow_in {n : Nat} {r : List Int} (h : okRow n r = true) : In n r := by
  intro t ht
  have := List.all_eq_true.1 h t ht
  simpa using this
theorem takeWhile_all {p : List Int → Bool} : ∀ {l : List (List Int)}, (∀ r ∈ l, p r = true) → l.takeWhile p = l
  | [], _ => rfl
  | r :: rs, h => by rw [List.takeWhile_cons, h r (by simp)]; simp only [if_true]; rw [takeWhile_all fun x hx => h x (by simp [hx])]
theorem takeWhile_bad {p : List Int → Bool} : ∀ {l : List (List Int)} {i : Nat} (hi : i < l.length), (∀ r ∈ l.take i, p r = true) → p l[i] = false → l.takeWhile p = l.take i
  | r :: rs, 0, _, _, h => by simp only [List.getElem_cons_zero] at h; simp [List.takeWhile_cons, h]
  | r :: rs, i + 1, hi, h1, h => by
    have hr := h1 r (by simp)
    rw [List.takeWhile_cons, hr]
    simp only [if_true, List.take_succ_cons]
    rw [takeWhile_bad (by simpa using hi) (fun x hx => h1 x (by simp [hx])) (by simpa using h)]
def costBad (cost : List Int) : Bool := cost.any fun n => decide (n < 0) || decide (n > 1048576)
def ofP (rows : List (List Int)) (cost : List Int) : V := if 512 < rows.length ∨ 16 < cost.length ∨ costBad cost = true then PV [] cost else PV ((rows.takeWhile (okRow cost.length)).map maskS) cost
theorem possP_eq (rows : List (List Int)) (cost : List Int) : possS rows cost = (!(decide (512 < rows.length ∨ 16 < cost.length ∨ costBad cost = true)) && rows.all (okRow cost.length)) := by
  have hb : costBad cost = !(cost.all fun c => decide (0 ≤ c) && decide (c ≤ 1048576)) := by
    rw [costBad, List.not_all_eq_any_not]
    congr 1
    funext c
    by_cases h1 : c < 0 <;> by_cases h2 : c > 1048576 <;> simp [h1, h2] <;> omega
  rw [possS, hb]
  unfold okRow
  by_cases h1 : rows.length ≤ 512 <;> by_cases h2 : cost.length ≤ 16 <;> cases (cost.all fun c => decide (0 ≤ c) && decide (c ≤ 1048576)) <;> simp [h1, h2] <;> omega
theorem of_ev (rows : List (List Int)) (cost : List Int) (hr : rows.length < 1000000) (hrr : ∀ r ∈ rows, r.length < 1000000) (hc : cost.length < 1000000) (sto : Sto) (lo : Nat) (hlo : lo ≤ sto.length) : CallEv Tryd.prog tab B0 32 [.v (MV rows), .v (LI cost)] sto lo (.v (.tup [ofP rows cost, .bool (possS rows cost)])) sto := by
  have hof := fun sto lo hlo => containsFuncI_ev (B := B0) cost (fun n => decide (n < 0) || decide (n > 1048576)) 51 [] (by omega) sto lo hlo (fun x _ => of1_ev x sto lo hlo)
  change ∀ sto lo, _ → CallEv _ _ _ _ _ _ _ (.v (.bool (costBad cost))) _ at hof
  have hps := possP_eq rows cost
  have hofP : ofP rows cost = if 512 < rows.length ∨ 16 < cost.length ∨ costBad cost = true then PV [] cost else PV ((rows.takeWhile (okRow cost.length)).map maskS) cost := rfl
  generalize costBad cost = cb at *
  by_cases hL : 512 < rows.length ∨ 16 < cost.length ∨ cb = true
  · rw [hps, hofP, if_pos hL, decide_eq_true hL]
    clear hps hofP
    have hLh := Lib.hid hL
    clear hL
    refine CallEv.intro ⟨_, _, [], Tryd.func32, rfl, by decide, ?_⟩; simp only [go_sem, Tryd.ntmps32]
    repeat' (first | (refine go ⟨?_⟩) | (((refine call ?_); (refine ⟨_, hof _ _ (by first | omega | (simp; done) | (simp; omega)), ?_⟩); (try simp only [go_sem]))) | ((first | (refine bsp ?_ ?_) | (refine csp ?_ ?_)); all_goals (intro hb; (fail_if_success (cases hb; done)); (try simp only [decide_eq_true_eq, decide_eq_false_iff_not, beq_iff_eq, bne_iff_ne, ne_eq, beq_eq_false_iff_ne, bne_eq_false_iff_eq, Bool.not_eq_true', Bool.not_eq_false', Bool.and_eq_true, Bool.or_eq_true, Decidable.not_not] at hb); (try simp only [go_sem]))))
    · refine ⟨by first | exact .inr rfl | exact .inl rfl, .inl ⟨[], _, (by dsimp only [Tryd.f32]; exact sv), ?_, by simp⟩⟩
      rfl
    · refine ⟨by first | exact .inr rfl | exact .inl rfl, .inl ⟨[], _, (by dsimp only [Tryd.f32]; exact sv), ?_, by simp⟩⟩
      rfl
    · refine ⟨by first | exact .inr rfl | exact .inl rfl, .inl ⟨[], _, (by dsimp only [Tryd.f32]; exact sv), ?_, by simp⟩⟩
      rfl
    · exfalso
      have hL : _ ∨ _ ∨ _ := hLh
      rcases hL with h | h | h
      · omega
      · omega
      · simp_all
  · rw [hps, hofP, if_neg hL, decide_eq_false hL]
    have h1 : rows.length ≤ 512 := by omega
    have h2 : cost.length ≤ 16 := by omega
    obtain rfl : cb = false := by cases cb <;> simp_all
    clear hps hofP hL
    refine CallEv.intro ⟨_, _, [], Tryd.func32, rfl, by decide, ?_⟩; simp only [go_sem, Tryd.ntmps32]
    repeat' (first | (refine go ⟨?_⟩) | (((refine call ?_); (refine ⟨_, hof _ _ (by first | omega | (simp; done) | (simp; omega)), ?_⟩); (try simp only [go_sem]))) | ((first | (refine bsp ?_ ?_) | (refine csp ?_ ?_)); all_goals (intro hb; (fail_if_success (cases hb; done)); (try simp only [decide_eq_true_eq, decide_eq_false_iff_not, beq_iff_eq, bne_iff_ne, ne_eq, beq_eq_false_iff_ne, bne_eq_false_iff_eq, Bool.not_eq_true', Bool.not_eq_false', Bool.and_eq_true, Bool.or_eq_true, Decidable.not_not] at hb); (try simp only [go_sem]))))
    clear hof
    refine c_loop (fun m s => ∃ (i : Nat) (cs : List V) (es : Option (TypeId × Nat)) (js : List Ent), (i ≤ rows.length ∧ m = rows.length - i ∧ cs = ((rows.take i).map maskS).map VU ∧ (es = none ∨ es = some (67, 1)) ∧ Hid (∀ r ∈ rows.take i, okRow cost.length r = true)) ∧ (s.env.length = 64 ∧ s.sto = sto ++ .cells [.v (.sl rows.length (rowsC rows))] :: .cells [.nilS, .nilS] :: .cells [.arr (sto.length + 3) i, .v (LI cost)] :: .arr es false i cs :: js ∧ s.env[1]? = some (.v (LI cost)) ∧ s.env[2]? = some (.ptr sto.length 0) ∧ s.env[4]? = some (.ptr (sto.length + 1) 0) ∧ s.env[6]? = some (.ptr (sto.length + 2) 0) ∧ s.env[29]? = some (.v (.sl rows.length (rowsC rows))) ∧ s.env[30]? = some (.v (VI rows.length)) ∧ s.env[31]? = some (.v (VI i)))) (.adoptC _ (sto.length + 2) 0 false [.nilS, .v (LI cost)] (by simp) rfl (by omega) (by omega)) ⟨0, _, _, [], ⟨by omega, rfl, rfl, .inl rfl, Lib.hid (fun r h => by simp at h)⟩, rfl, ?_, ?_, ?_, ?_, ?_, ?_, ?_, ?_⟩ ?_
    all_goals first | rfl | (simp; done) | skip
    rintro m s ⟨i, cs, es, js, ⟨h3, rfl, rfl, h4, h5⟩, hL, hT, k1, k2, k4, k6, k29, k30, k31⟩
    obtain ⟨env, st0⟩ := s; obtain ⟨J, hJ⟩ := listJ hL; rw [show (List.range 64).map J = J 0 :: J 1 :: J 2 :: J 3 :: J 4 :: J 5 :: J 6 :: J 7 :: J 8 :: J 9 :: J 10 :: J 11 :: J 12 :: J 13 :: J 14 :: J 15 :: J 16 :: J 17 :: J 18 :: J 19 :: J 20 :: J 21 :: J 22 :: J 23 :: J 24 :: J 25 :: J 26 :: J 27 :: J 28 :: J 29 :: J 30 :: J 31 :: J 32 :: J 33 :: J 34 :: J 35 :: J 36 :: J 37 :: J 38 :: J 39 :: J 40 :: J 41 :: J 42 :: J 43 :: J 44 :: J 45 :: J 46 :: J 47 :: J 48 :: J 49 :: J 50 :: J 51 :: J 52 :: J 53 :: J 54 :: J 55 :: J 56 :: J 57 :: J 58 :: J 59 :: J 60 :: J 61 :: J 62 :: J 63 :: [] from by kernel_rfl] at hJ; replace k1 := Option.some.inj ((congrArg (·[1]?) hJ).symm.trans k1); replace k2 := Option.some.inj ((congrArg (·[2]?) hJ).symm.trans k2); replace k4 := Option.some.inj ((congrArg (·[4]?) hJ).symm.trans k4); replace k6 := Option.some.inj ((congrArg (·[6]?) hJ).symm.trans k6); replace k29 := Option.some.inj ((congrArg (·[29]?) hJ).symm.trans k29); replace k30 := Option.some.inj ((congrArg (·[30]?) hJ).symm.trans k30); replace k31 := Option.some.inj ((congrArg (·[31]?) hJ).symm.trans k31); rw [k1, k2, k4, k6, k29, k30, k31] at hJ; dsimp only at hJ hT; subst hJ; replace hT := hT.symm; subst hT; clear hL k1 k2 k4 k6 k29 k30 k31
    have hcl : (((rows.take i).map maskS).map VU).length = i := by simp; omega
    by_cases hi : i < rows.length
    · have hrl := hrr rows[i] (List.getElem_mem hi)
      obtain ⟨row, hrow⟩ : ∃ row, rows[i] = row := ⟨_, rfl⟩
      have hnx : ((rows.take (i + 1)).map maskS).map VU = ((rows.take i).map maskS).map VU ++ [VU (maskS row)] := by
        rw [List.take_succ_eq_append_getElem hi, hrow]; simp
      have htk : rows.take (i + 1) = rows.take i ++ [row] := by rw [List.take_succ_eq_append_getElem hi, hrow]
      have hbad : okRow cost.length row = false → rows.takeWhile (okRow cost.length) = rows.take i ∧ rows.all (okRow cost.length) = false := fun h => by
        refine ⟨takeWhile_bad hi h5 (by rw [hrow]; exact h), ?_⟩
        rw [List.all_eq_false]
        exact ⟨row, by rw [← hrow]; exact List.getElem_mem hi, by simp [h]⟩
      have hQ := Lib.hid (And.intro hnx (And.intro htk hbad))
      clear hnx htk hbad
      repeat' (first | (refine go ⟨?_⟩) | (fail) | ((first | (refine bsp ?_ ?_) | (refine csp ?_ ?_)); all_goals (intro hb; (fail_if_success (cases hb; done)); (try simp only [decide_eq_true_eq, decide_eq_false_iff_not, beq_iff_eq, bne_iff_ne, ne_eq, beq_eq_false_iff_ne, bne_eq_false_iff_eq, Bool.not_eq_true', Bool.not_eq_false', Bool.and_eq_true, Bool.or_eq_true, Decidable.not_not] at hb); (try simp only [go_sem]))))
      rw [hrow] at hrl ⊢
      clear hrow hrr
      generalize hcs : ((rows.take i).map maskS).map VU = cs at *
      generalize js ++ [Ent.cells (List.map D.v (rowC row) ++ [])] = js2
      refine c_loop (fun m s => ∃ j : Nat, (j ≤ row.length ∧ m = row.length - j ∧ Hid (okRow cost.length (row.take j) = true)) ∧ (s.env.length = 64 ∧ s.sto = sto ++ .cells [.v (.sl rows.length (rowsC rows))] :: .cells [.nilS, .nilS] :: .cells [.arr (sto.length + 3) i, .v (LI cost)] :: .arr es false i cs :: js2 ∧ s.env[1]? = some (.v (LI cost)) ∧ s.env[2]? = some (.ptr sto.length 0) ∧ s.env[4]? = some (.ptr (sto.length + 1) 0) ∧ s.env[6]? = some (.ptr (sto.length + 2) 0) ∧ s.env[9]? = some (.v (VU (maskS (row.take j)))) ∧ s.env[29]? = some (.v (.sl rows.length (rowsC rows))) ∧ s.env[30]? = some (.v (VI rows.length)) ∧ s.env[31]? = some (.v (VI i)) ∧ s.env[36]? = some (.v (LI row)) ∧ s.env[37]? = some (.v (VI row.length)) ∧ s.env[38]? = some (.v (VI j)))) (.refl _) ⟨0, ⟨by omega, rfl, Lib.hid rfl⟩, rfl, rfl, ?_, ?_, ?_, ?_, ?_, ?_, ?_, ?_, ?_, ?_, ?_⟩ ?_
      all_goals first | rfl | skip
      rintro m s ⟨j, ⟨h6, rfl, h7⟩, hL, hT, k1, k2, k4, k6, k9, k29, k30, k31, k36, k37, k38⟩
      obtain ⟨env, st0⟩ := s; obtain ⟨J, hJ⟩ := listJ hL; rw [show (List.range 64).map J = J 0 :: J 1 :: J 2 :: J 3 :: J 4 :: J 5 :: J 6 :: J 7 :: J 8 :: J 9 :: J 10 :: J 11 :: J 12 :: J 13 :: J 14 :: J 15 :: J 16 :: J 17 :: J 18 :: J 19 :: J 20 :: J 21 :: J 22 :: J 23 :: J 24 :: J 25 :: J 26 :: J 27 :: J 28 :: J 29 :: J 30 :: J 31 :: J 32 :: J 33 :: J 34 :: J 35 :: J 36 :: J 37 :: J 38 :: J 39 :: J 40 :: J 41 :: J 42 :: J 43 :: J 44 :: J 45 :: J 46 :: J 47 :: J 48 :: J 49 :: J 50 :: J 51 :: J 52 :: J 53 :: J 54 :: J 55 :: J 56 :: J 57 :: J 58 :: J 59 :: J 60 :: J 61 :: J 62 :: J 63 :: [] from by kernel_rfl] at hJ; replace k1 := Option.some.inj ((congrArg (·[1]?) hJ).symm.trans k1); replace k2 := Option.some.inj ((congrArg (·[2]?) hJ).symm.trans k2); replace k4 := Option.some.inj ((congrArg (·[4]?) hJ).symm.trans k4); replace k6 := Option.some.inj ((congrArg (·[6]?) hJ).symm.trans k6); replace k9 := Option.some.inj ((congrArg (·[9]?) hJ).symm.trans k9); replace k29 := Option.some.inj ((congrArg (·[29]?) hJ).symm.trans k29); replace k30 := Option.some.inj ((congrArg (·[30]?) hJ).symm.trans k30); replace k31 := Option.some.inj ((congrArg (·[31]?) hJ).symm.trans k31); replace k36 := Option.some.inj ((congrArg (·[36]?) hJ).symm.trans k36); replace k37 := Option.some.inj ((congrArg (·[37]?) hJ).symm.trans k37); replace k38 := Option.some.inj ((congrArg (·[38]?) hJ).symm.trans k38); rw [k1, k2, k4, k6, k9, k29, k30, k31, k36, k37, k38] at hJ; dsimp only at hJ hT; subst hJ; replace hT := hT.symm; subst hT; clear hL k1 k2 k4 k6 k9 k29 k30 k31 k36 k37 k38
      by_cases hj : j < row.length
      · by_cases ht : 0 ≤ row[j] ∧ row[j] < cost.length
        · have hin := okRow_in h7
          have hm1 : maskS (row.take j) < 18446744073709551616 := Nat.lt_of_lt_of_le (mask_lt hin) (Nat.pow_le_pow_right (by omega) (by omega : cost.length ≤ 64))
          have hm2 : 2 ^ row[j].toNat < 18446744073709551616 := Nat.lt_of_lt_of_le (Nat.pow_lt_pow_right (a := 2) (m := row[j].toNat) (n := 16) (by omega) (by omega)) (by omega)
          have hmt := mask_take hj
          have hshl := orMask hm1 ht.1 (by omega)
          have hok : okRow cost.length (row.take (j + 1)) = true := by
            rw [List.take_succ_eq_append_getElem hj, okRow, List.all_append, ← okRow]
            have h7' : okRow cost.length (row.take j) = true := h7
            rw [h7']
            simp [ht.1, ht.2]
          have hR := Lib.hid (And.intro hmt (And.intro hok hshl))
          clear hin hmt hok hshl
          repeat' (first | (refine go ⟨?_⟩) | (fail) | ((first | (refine bsp ?_ ?_) | (refine csp ?_ ?_)); all_goals (intro hb; (fail_if_success (cases hb; done)); (try simp only [decide_eq_true_eq, decide_eq_false_iff_not, beq_iff_eq, bne_iff_ne, ne_eq, beq_eq_false_iff_ne, bne_eq_false_iff_eq, Bool.not_eq_true', Bool.not_eq_false', Bool.and_eq_true, Bool.or_eq_true, Decidable.not_not] at hb); (try simp only [go_sem]))))
          obtain ⟨hmt, hok, hshl⟩ := hR
          refine ⟨_, _, ?_, .refl _, j + 1, ⟨by omega, rfl, Lib.hid hok⟩, rfl, rfl, ?_, ?_, ?_, ?_, ?_, ?_, ?_, ?_, ?_, ?_, ?_⟩
          · omega
          all_goals first | rfl | (rw [hmt]; exact congrArg (fun z => some (D.v (V.int .u64 z))) hshl)
        · have hbr : okRow cost.length row = false := by
            cases h : okRow cost.length row with
            | false => rfl
            | true => exact absurd (okRow_in h row[j] (List.getElem_mem hj)) ht
          obtain ⟨_, _, hbad⟩ := hQ
          obtain ⟨b1, b2⟩ := hbad hbr
          have hbh := Lib.hid (And.intro b1 b2)
          clear b1 b2 hbad hbr
          repeat' (first | (refine go ⟨?_⟩) | (fail) | ((first | (refine bsp ?_ ?_) | (refine csp ?_ ?_)); all_goals (intro hb; (fail_if_success (cases hb; done)); (try simp only [decide_eq_true_eq, decide_eq_false_iff_not, beq_iff_eq, bne_iff_ne, ne_eq, beq_eq_false_iff_ne, bne_eq_false_iff_eq, Bool.not_eq_true', Bool.not_eq_false', Bool.and_eq_true, Bool.or_eq_true, Decidable.not_not] at hb); (try simp only [go_sem]))))
          all_goals (refine ⟨by first | exact .inr rfl | exact .inl rfl, .inl ⟨[], _, (by dsimp only [Tryd.f32]; exact sv), ?_, by simp⟩⟩)
          all_goals
            obtain ⟨b1, b2⟩ := hbh
            have hl : ((rows.take i).map maskS).length = i := by simp; omega
            rw [b1, b2]
            simp only [PV, SL, hl, hcs]
            rfl
      · have hjl : j = row.length := by omega
        rw [List.take_of_length_le (by omega)] at h7
        rw [List.take_of_length_le (by omega : row.length ≤ j)]
        obtain ⟨hnx, htk, _⟩ := hQ
        have hok : okRow cost.length row = true := h7
        have hQ := Lib.hid (And.intro hnx (And.intro htk hok))
        clear hnx htk hok h7
        repeat' (first | (refine go ⟨?_⟩) | (fail) | ((first | (refine bsp ?_ ?_) | (refine csp ?_ ?_)); all_goals (intro hb; (fail_if_success (cases hb; done)); (try simp only [decide_eq_true_eq, decide_eq_false_iff_not, beq_iff_eq, bne_iff_ne, ne_eq, beq_eq_false_iff_ne, bne_eq_false_iff_eq, Bool.not_eq_true', Bool.not_eq_false', Bool.and_eq_true, Bool.or_eq_true, Decidable.not_not] at hb); (try simp only [go_sem]))))
        obtain ⟨hnx, htk, hok⟩ := hQ
        refine ⟨_, _, ?_, .refl _, i + 1, _, _, js2, ⟨by omega, rfl, rfl, .inr rfl, Lib.hid fun r hr => ?_⟩, rfl, ?_, ?_, ?_, ?_, ?_, ?_, ?_, ?_⟩
        · omega
        · rw [htk] at hr
          rcases List.mem_append.1 hr with h | h
          · exact h5 r h
          · rw [List.mem_singleton.1 h]; exact hok
        all_goals first | rfl | (rw [hnx]; rfl) | skip
    · repeat' (first | (refine go ⟨?_⟩) | (fail) | ((first | (refine bsp ?_ ?_) | (refine csp ?_ ?_)); all_goals (intro hb; (fail_if_success (cases hb; done)); (try simp only [decide_eq_true_eq, decide_eq_false_iff_not, beq_iff_eq, bne_iff_ne, ne_eq, beq_eq_false_iff_ne, bne_eq_false_iff_eq, Bool.not_eq_true', Bool.not_eq_false', Bool.and_eq_true, Bool.or_eq_true, Decidable.not_not] at hb); (try simp only [go_sem]))))
      refine ⟨by first | exact .inr rfl | exact .inl rfl, .inl ⟨[], _, (by dsimp only [Tryd.f32]; exact sv), ?_, by simp⟩⟩
      obtain rfl : i = rows.length := by omega
      have h5' : ∀ r ∈ rows.take rows.length, okRow cost.length r = true := h5
      rw [List.take_of_length_le (Nat.le_refl _)] at h5' ⊢
      have e1 : rows.takeWhile (okRow cost.length) = rows := takeWhile_all h5'
      have e2 : rows.all (okRow cost.length) = true := List.all_eq_true.2 h5'
      rw [e1, e2]
      simp only [PV, SL, List.length_map]
      rfl
end Go.Proofs.YtgkhcjdpdgfdbaaDoor
namespace Go.Proofs.YtgkhcjdpdgfdbaaDoor
open Go Go.RowKit

attribute [local irreducible] EvOps EvC
attribute [local go_sem] List.getElem?_toArray getS
set_option linter.unusedSimpArgs false
set_option linter.unusedVariables false
set_option maxRecDepth 100000
set_option maxHeartbeats 4000000
theorem least1_set (r n : Nat) (hr : r < 18446744073709551616) (hn : n < 18446744073709551616) (id : Nat) (sto : Sto) (lo : Nat) (hid : id < sto.length) : CallEv Tryd.prog tab B0 56 [.v (VU r), .ptr id 0] (sto.set id (.cells [.v (VU n)])) lo (.v (.bool (decide (r ≠ 0) && decide (r &&& n = 0)))) (sto.set id (.cells [.v (VU n)])) := by
  refine CallEv.intro ⟨_, _, [], Tryd.func56, rfl, by decide, ?_⟩; simp only [go_sem, Tryd.ntmps56]
  repeat' (first | (refine go ⟨?_⟩) | (fail) | ((first | (refine bsp ?_ ?_) | (refine csp ?_ ?_)); all_goals (intro hb; (fail_if_success (cases hb; done)); (try simp only [decide_eq_true_eq, decide_eq_false_iff_not, beq_iff_eq, bne_iff_ne, ne_eq, beq_eq_false_iff_ne, bne_eq_false_iff_eq, Bool.not_eq_true', Bool.not_eq_false', Bool.and_eq_true, Bool.or_eq_true, Decidable.not_not] at hb); (try simp only [go_sem]))))
  · refine ⟨by first | exact .inr rfl | exact .inl rfl, .inl ⟨[], _, (by dsimp only [Tryd.f56]; exact sv), ?_, ?_⟩⟩
    · have h1 : r ≠ 0 := by omega
      have h2 : (((r &&& n : Nat) : Int) == 0) = decide (r &&& n = 0) := by
        by_cases h : r &&& n = 0
        · simp [h]
        · simp [h]
      rw [h2]
      simp [h1]
    · (rw [List.take_of_length_le (by simp)])
  · refine ⟨by first | exact .inr rfl | exact .inl rfl, .inl ⟨[], _, (by dsimp only [Tryd.f56]; exact sv), ?_, ?_⟩⟩
    · have h1 : r = 0 := by omega
      simp [h1]
    · (rw [List.take_of_length_le (by simp)])
theorem least1_ev (r n : Nat) (hr : r < 18446744073709551616) (hn : n < 18446744073709551616) (id : Nat) (sto : Sto) (lo : Nat) (hs : sto[id]? = some (.cells [.v (VU n)])) : CallEv Tryd.prog tab B0 56 [.v (VU r), .ptr id 0] sto lo (.v (.bool (decide (r ≠ 0) && decide (r &&& n = 0)))) sto := by
  have h := least1_set r n hr hn id sto lo (List.getElem?_eq_some_iff.1 hs).1
  rwa [set_sameE hs] at h
/-- A row that needs a test and gets none. -/
def lacks (ms : List Nat) (n : Nat) : Bool := ms.any fun r => decide (r ≠ 0) && decide (r &&& n = 0)
theorem lacks_congr {ms ms' : List Nat} (h : ∀ r, r ∈ ms ↔ r ∈ ms') (n : Nat) : lacks ms n = lacks ms' n := by
  unfold lacks
  rw [Bool.eq_iff_iff, List.any_eq_true, List.any_eq_true]
  exact ⟨fun ⟨r, h1, h2⟩ => ⟨r, (h r).1 h1, h2⟩, fun ⟨r, h1, h2⟩ => ⟨r, (h r).2 h1, h2⟩⟩
abbrev LS := Nat × Int × Bool
def lstep (ms : List Nat) (cost : List Int) (s : LS) (n : Nat) : LS := if lacks ms n then s else if !s.2.2 || beforeN n s.1 (priceS cost (ints (bitsN n))) s.2.1 then (n, priceS cost (ints (bitsN n)), true) else s
def lfold (ms : List Nat) (cost : List Int) (k : Nat) : LS := (List.range k).foldl (lstep ms cost) (0, 0, false)
theorem lfold_succ (ms : List Nat) (cost : List Int) (k : Nat) : lfold ms cost (k + 1) = lstep ms cost (lfold ms cost k) k := by
  rw [lfold, List.range_succ, List.foldl_append]; rfl
theorem lfold_lt (ms : List Nat) (cost : List Int) : ∀ k, 0 < k → (lfold ms cost k).1 < k
  | 0, h => by omega
  | k + 1, _ => by
    rw [lfold_succ, lstep]
    have ih : (lfold ms cost k).1 < k + 1 := by
      rcases Nat.eq_zero_or_pos k with rfl | h
      · simp [lfold]
      · have := lfold_lt ms cost k h; omega
    split
    · exact ih
    · split
      · show k < k + 1; omega
      · exact ih
def leastN (ms : List Nat) (cost : List Int) : Nat := (lfold ms cost (2 ^ cost.length)).1
theorem least_ev (ms : List Nat) (cost : List Int) (hm : ms.length < 13) (hms : ∀ r ∈ ms, r < 18446744073709551616) (hc : CostOK cost) (hc8 : cost.length ≤ 8) (sto : Sto) (lo : Nat) (hlo : lo ≤ sto.length) : CallEv Tryd.prog tab collB 33 [.v (PV ms cost)] sto lo (.v (VU (leastN ms cost))) sto := by
  have hpw : 2 ^ cost.length ≤ 256 := Nat.pow_le_pow_right (n := 2) (by omega) hc8
  have hpos : 0 < 2 ^ cost.length := Nat.two_pow_pos _
  have hds : ∀ r, r ∈ dedupA (sortN ms) ↔ r ∈ ms := fun r => by rw [dedupA_mem]; exact (sortN_perm ms).mem_iff
  have hdl : (dedupA (sortN ms)).length ≤ 12 := by
    have h1 := dedupA_length (sortN ms)
    have h2 := (sortN_perm ms).length_eq
    omega
  have hlen : (sortN ms).length = ms.length := (sortN_perm ms).length_eq
  refine CallEv.intro ⟨_, _, [], Tryd.func33, rfl, by decide, ?_⟩; simp only [go_sem, Tryd.ntmps33]
  repeat' (first | (refine go ⟨?_⟩) | (((with_reducible apply ops_callW); rfl; (simp (disch := (first | omega | assumption | ((repeat' with_reducible apply And.intro) <;> first | omega | assumption | rfl | (apply Or.inl; rfl) | (apply Or.inr; first | rfl | trivial | fail) | fail) | fail)) only [go_sem, if_pos, if_neg, wrapI, wrapU, decide_eq_true, decide_eq_false, beqT, beqF, bneT, bneF] <;> rfl); (exact (valuesU_ev ms _ _ (by first | omega | (simp; done) | (simp; omega))).up0); (first | exact ho_arr | exact ho_arr2 | exact ho_map | exact ho_app (by first | omega | (simp; done) | (simp; omega)) | exact ho_app2 (by first | omega | (simp; done) | (simp; omega))); (try simp only [go_sem]))) | ((first | (refine bsp ?_ ?_) | (refine csp ?_ ?_)); all_goals (intro hb; (fail_if_success (cases hb; done)); (try simp only [decide_eq_true_eq, decide_eq_false_iff_not, beq_iff_eq, bne_iff_ne, ne_eq, beq_eq_false_iff_ne, bne_eq_false_iff_eq, Bool.not_eq_true', Bool.not_eq_false', Bool.and_eq_true, Bool.or_eq_true, Decidable.not_not] at hb); (try simp only [go_sem]))))
  ((with_reducible apply ops_callW); rfl; (simp (disch := (first | omega | assumption | ((repeat' with_reducible apply And.intro) <;> first | omega | assumption | rfl | (apply Or.inl; rfl) | (apply Or.inr; first | rfl | trivial | fail) | fail) | fail)) only [go_sem, if_pos, if_neg, wrapI, wrapU, decide_eq_true, decide_eq_false, beqT, beqF, bneT, bneF] <;> rfl); (exact sortedU_ev ms _ hm _ _ (by first | omega | (simp; done) | (simp; omega)) (by simp only [go_sem])); (first | exact ho_arr | exact ho_arr2 | exact ho_map | exact ho_app (by first | omega | (simp; done) | (simp; omega)) | exact ho_app2 (by first | omega | (simp; done) | (simp; omega))); (try simp only [go_sem]))
  have hcomp := fun S hS => (compactU_at (sortN ms) (sto.length + 2) (by omega) S lo (by
    have := (List.getElem?_eq_some_iff.1 hS).1; omega) (by omega) hS).up0 (B := collB)
  rw [hlen] at hcomp
  ((with_reducible apply ops_callW); rfl; (simp (disch := (first | omega | assumption | ((repeat' with_reducible apply And.intro) <;> first | omega | assumption | rfl | (apply Or.inl; rfl) | (apply Or.inr; first | rfl | trivial | fail) | fail) | fail)) only [go_sem, if_pos, if_neg, wrapI, wrapU, decide_eq_true, decide_eq_false, beqT, beqF, bneT, bneF] <;> rfl); (exact hcomp _ (by simp only [go_sem])); (first | exact ho_arr | exact ho_arr2 | exact ho_map | exact ho_app (by first | omega | (simp; done) | (simp; omega)) | exact ho_app2 (by first | omega | (simp; done) | (simp; omega))); (try simp only [go_sem]))
  clear hcomp
  repeat' (first | (refine go ⟨?_⟩) | (fail) | ((first | (refine bsp ?_ ?_) | (refine csp ?_ ?_)); all_goals (intro hb; (fail_if_success (cases hb; done)); (try simp only [decide_eq_true_eq, decide_eq_false_iff_not, beq_iff_eq, bne_iff_ne, ne_eq, beq_eq_false_iff_ne, bne_eq_false_iff_eq, Bool.not_eq_true', Bool.not_eq_false', Bool.and_eq_true, Bool.or_eq_true, Decidable.not_not] at hb); (try simp only [go_sem]))))
  have hshl : IntKind.wrap .i64 (1 * 2 ^ min cost.length 64) = ((2 ^ cost.length : Nat) : Int) := shlI (n := cost.length) (by omega)
  simp only [hshl]
  have hlN : leastN ms cost = (lfold ms cost (2 ^ cost.length)).1 := rfl
  rw [hlN]
  have hpr : ∀ n, n < 2 ^ cost.length → In cost.length (ints (bitsN n)) := fun n hn => by
    rw [bitsN_small (by omega) hn]; exact subsetS_in n _
  have hprh := Lib.hid hpr
  have hdsh := Lib.hid hds
  clear hshl hlN hpr hds
  generalize hKd : 2 ^ cost.length = K at *
  clear hKd
  generalize dedupA (sortN ms) = ds at *
  generalize (Ent.arr (if ms.length = 0 then none else some (67, 1)) false ms.length (compC (sortN ms))) = E3
  generalize Ent.cells [D.v (SL VU ms)] = E2
  refine c_loop (fun m s => ∃ (n : Nat) (s0 : LS) (js : List Ent), (n ≤ K ∧ m = K - n ∧ s0 = lfold ms cost n) ∧ (s.env.length = 43 ∧ s.sto = sto ++ .cells [.v (SL VU ms), .v (LI cost)] :: E2 :: E3 :: js ∧ s.env[1]? = some (.ptr sto.length 0) ∧ s.env[3]? = some (.v (SL VU ds)) ∧ s.env[4]? = some (.v (VU s0.1)) ∧ s.env[5]? = some (.v (VI s0.2.1)) ∧ s.env[6]? = some (.v (.bool s0.2.2)) ∧ s.env[18]? = some (.v (VI K)) ∧ s.env[19]? = some (.v (VI n)))) (.refl _) ⟨0, _, [], ⟨by omega, rfl, rfl⟩, rfl, rfl, ?_, ?_, ?_, ?_, ?_, ?_, ?_⟩ ?_
  all_goals first | rfl | skip
  rintro m s ⟨n, s0, js, ⟨h1, rfl, hs0⟩, hL, hT, k1, k3, k4, k5, k6, k18, k19⟩
  obtain ⟨env, st0⟩ := s; obtain ⟨J, hJ⟩ := listJ hL; rw [show (List.range 43).map J = J 0 :: J 1 :: J 2 :: J 3 :: J 4 :: J 5 :: J 6 :: J 7 :: J 8 :: J 9 :: J 10 :: J 11 :: J 12 :: J 13 :: J 14 :: J 15 :: J 16 :: J 17 :: J 18 :: J 19 :: J 20 :: J 21 :: J 22 :: J 23 :: J 24 :: J 25 :: J 26 :: J 27 :: J 28 :: J 29 :: J 30 :: J 31 :: J 32 :: J 33 :: J 34 :: J 35 :: J 36 :: J 37 :: J 38 :: J 39 :: J 40 :: J 41 :: J 42 :: [] from by kernel_rfl] at hJ; replace k1 := Option.some.inj ((congrArg (·[1]?) hJ).symm.trans k1); replace k3 := Option.some.inj ((congrArg (·[3]?) hJ).symm.trans k3); replace k4 := Option.some.inj ((congrArg (·[4]?) hJ).symm.trans k4); replace k5 := Option.some.inj ((congrArg (·[5]?) hJ).symm.trans k5); replace k6 := Option.some.inj ((congrArg (·[6]?) hJ).symm.trans k6); replace k18 := Option.some.inj ((congrArg (·[18]?) hJ).symm.trans k18); replace k19 := Option.some.inj ((congrArg (·[19]?) hJ).symm.trans k19); rw [k1, k3, k4, k5, k6, k18, k19] at hJ; dsimp only at hJ hT; subst hJ; replace hT := hT.symm; subst hT; clear hL k1 k3 k4 k5 k6 k18 k19
  by_cases hn : n < K
  · have hb0 : s0.1 < 256 := by
      rw [hs0]
      rcases Nat.eq_zero_or_pos n with rfl | h
      · simp [lfold]
      · have := lfold_lt ms cost n h; omega
    have hnx : lfold ms cost (n + 1) = lstep ms cost s0 n := by rw [lfold_succ, hs0]
    have hnxh := Lib.hid hnx
    have hs0h := Lib.hid hs0
    clear hnx hs0
    obtain ⟨best, pr, fd⟩ := s0
    simp only at hb0
    have hlk : (ds.any fun r => decide (r ≠ 0) && decide (r &&& n = 0)) = lacks ms n := lacks_congr hdsh n
    have hdm : ∀ r ∈ ds, r < 18446744073709551616 := fun r hr => hms r ((hdsh r).1 hr)
    have hcf := fun S id (hS : S[id]? = some (.cells [.v (VU n)])) lo2 (hlo2 : lo2 ≤ S.length) => containsFuncU_ev (B := collB) ds (fun r => decide (r ≠ 0) && decide (r &&& n = 0)) 56 [id] (by omega) S lo2 hlo2 (fun x hx => (least1_ev x n (hdm x hx) (by omega) id S lo2 hS).up0)
    have hpp := fun S lo2 hlo2 => (price_ev ms cost n (by omega) hc (hprh n hn) S lo2 hlo2).up0 (B := collB)
    have hbf := fun S lo2 hlo2 => (before_ev n best (priceS cost (ints (bitsN n))) pr (by omega) hb0 S lo2 hlo2).up0 (B := collB)
    rw [hlk] at hcf
    have hstep : lstep ms cost (best, pr, fd) n = if lacks ms n then (best, pr, fd) else if !fd || beforeN n best (priceS cost (ints (bitsN n))) pr then (n, priceS cost (ints (bitsN n)), true) else (best, pr, fd) := rfl
    generalize priceS cost (ints (bitsN n)) = px at *
    generalize beforeN n best px pr = bq at *
    generalize lacks ms n = lk at *
    have hsth := Lib.hid hstep
    clear hstep hlk hdm
    repeat' (first | (refine go ⟨?_⟩) | (first | ((refine call ?_); (refine ⟨_, hcf _ _ (by simp only [go_sem]) _ (by first | omega | (simp; done) | (simp; omega)), ?_⟩); (try simp only [go_sem])) | ((refine call ?_); (refine ⟨_, hpp _ _ (by first | omega | (simp; done) | (simp; omega)), ?_⟩); (try simp only [go_sem])) | ((refine call ?_); (refine ⟨_, hbf _ _ (by first | omega | (simp; done) | (simp; omega)), ?_⟩); (try simp only [go_sem]))) | ((first | (refine bsp ?_ ?_) | (refine csp ?_ ?_)); all_goals (intro hb; (fail_if_success (cases hb; done)); (try simp only [decide_eq_true_eq, decide_eq_false_iff_not, beq_iff_eq, bne_iff_ne, ne_eq, beq_eq_false_iff_ne, bne_eq_false_iff_eq, Bool.not_eq_true', Bool.not_eq_false', Bool.and_eq_true, Bool.or_eq_true, Decidable.not_not] at hb); (try simp only [go_sem]))))
    · have hnx : _ = _ := hnxh
      have hst : _ = _ := hsth
      refine ⟨_, _, ?_, .refl _, n + 1, (best, pr, fd), _, ⟨by omega, rfl, ?_⟩, rfl, rfl, ?_, ?_, ?_, ?_, ?_, ?_, ?_⟩
      · omega
      · rw [hnx, hst]; simp_all
      all_goals rfl
    · have hnx : _ = _ := hnxh
      have hst : _ = _ := hsth
      refine ⟨_, _, ?_, .refl _, n + 1, (n, px, true), _, ⟨by omega, rfl, ?_⟩, rfl, rfl, ?_, ?_, ?_, ?_, ?_, ?_, ?_⟩
      · omega
      · rw [hnx, hst]; simp_all
      all_goals rfl
    · have hnx : _ = _ := hnxh
      have hst : _ = _ := hsth
      refine ⟨_, _, ?_, .refl _, n + 1, (n, px, true), _, ⟨by omega, rfl, ?_⟩, rfl, rfl, ?_, ?_, ?_, ?_, ?_, ?_, ?_⟩
      · omega
      · rw [hnx, hst]; simp_all
      all_goals rfl
    · have hnx : _ = _ := hnxh
      have hst : _ = _ := hsth
      refine ⟨_, _, ?_, .refl _, n + 1, (best, pr, fd), _, ⟨by omega, rfl, ?_⟩, rfl, rfl, ?_, ?_, ?_, ?_, ?_, ?_, ?_⟩
      · omega
      · rw [hnx, hst]; simp_all
      all_goals rfl
  · repeat' (first | (refine go ⟨?_⟩) | (fail) | ((first | (refine bsp ?_ ?_) | (refine csp ?_ ?_)); all_goals (intro hb; (fail_if_success (cases hb; done)); (try simp only [decide_eq_true_eq, decide_eq_false_iff_not, beq_iff_eq, bne_iff_ne, ne_eq, beq_eq_false_iff_ne, bne_eq_false_iff_eq, Bool.not_eq_true', Bool.not_eq_false', Bool.and_eq_true, Bool.or_eq_true, Decidable.not_not] at hb); (try simp only [go_sem]))))
    refine ⟨by first | exact .inr rfl | exact .inl rfl, .inl ⟨[], _, (by dsimp only [Tryd.f33]; exact sv), ?_, by simp⟩⟩
    obtain rfl : n = K := by omega
    rw [hs0]
end Go.Proofs.YtgkhcjdpdgfdbaaDoor
