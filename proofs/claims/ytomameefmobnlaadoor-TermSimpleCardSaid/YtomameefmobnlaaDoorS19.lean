/-
  Terms: the reference's shapes. No condition of its own.
-/
import Derived.Test.YtomameefmobnlaaDoorS18
import Derived.Test.YtomameefmobnlaaDoorS3
namespace Go.Proofs.YtomameefmobnlaaDoor
open Go Go.RowKit

attribute [local irreducible] EvOps EvC
attribute [local go_sem] List.getElem?_toArray getS List.flatten_cons List.flatten_nil List.contains_nil List.append_nil
set_option linter.unusedSimpArgs false
set_option linter.unusedVariables false
set_option maxRecDepth 100000
set_option maxHeartbeats 8000000
theorem shaped_ev (N : Nat) : ∀ (t : Tr) (sto : Sto) (lo : Nat), tsz t ≤ N → tsz t < 1000000 → lo ≤ sto.length → CallEv Tryd.prog tab B0 43 [.v (TV t)] sto lo (.v (.bool (shapedS t))) sto := by
  induction N with
  | zero => intro t sto lo h; have := tsz_pos t; omega
  | succ N ih =>
    intro t sto lo hN hs hlo
    obtain ⟨k, n, m, l⟩ := t
    simp only [tsz] at hN hs
    have hll := tszs_length l
    rw [shapedS_eq]
    by_cases hk : k = 4 ∨ k = 5 ∨ k = 6 ∨ k = 9 ∨ k = 10 ∨ k = 29
    · obtain ⟨ws, hws⟩ : ∃ ws, ws = wantS k n l := ⟨_, rfl⟩
      obtain ⟨fb, hfb⟩ : ∃ fb, fb = fineS k n m l := ⟨_, rfl⟩
      rw [← hws, ← hfb]
      refine CallEv.intro ⟨_, _, [], Tryd.func43, rfl, by decide, ?_⟩; simp only [go_sem, Tryd.ntmps43]
      ((refine c_seq ?_); (with_reducible refine c_region ?_); (repeat (first | ((with_reducible apply ops_pure); rfl; (simp (disch := (first | omega | assumption | ((repeat' with_reducible apply And.intro) <;> first | omega | assumption | rfl | (apply Or.inl; rfl) | (apply Or.inr; first | rfl | trivial | fail) | fail) | fail)) only [go_sem, if_pos, if_neg, wrapI, wrapU, decide_eq_true, decide_eq_false, beqT, beqF, bneT, bneF] <;> rfl); simp only [go_sem]) | ((with_reducible apply ops_eff); decide; rfl; (simp (disch := (first | omega | assumption | ((repeat' with_reducible apply And.intro) <;> first | omega | assumption | rfl | (apply Or.inl; rfl) | (apply Or.inr; first | rfl | trivial | fail) | fail) | fail)) only [go_sem, if_pos, if_neg, wrapI, wrapU, decide_eq_true, decide_eq_false, beqT, beqF, bneT, bneF] <;> rfl); simp only [go_sem]) | ((with_reducible apply ops_skip); rfl; simp only [go_sem]))); (with_reducible refine ops_nil ?_); (with_reducible refine then_normal ?_))
      ((refine c_seq ?_); (with_reducible refine c_region ?_); (repeat (first | ((with_reducible apply ops_pure); rfl; (simp (disch := (first | omega | assumption | ((repeat' with_reducible apply And.intro) <;> first | omega | assumption | rfl | (apply Or.inl; rfl) | (apply Or.inr; first | rfl | trivial | fail) | fail) | fail)) only [go_sem, if_pos, if_neg, wrapI, wrapU, decide_eq_true, decide_eq_false, beqT, beqF, bneT, bneF] <;> rfl); simp only [go_sem]) | ((with_reducible apply ops_eff); decide; rfl; (simp (disch := (first | omega | assumption | ((repeat' with_reducible apply And.intro) <;> first | omega | assumption | rfl | (apply Or.inl; rfl) | (apply Or.inr; first | rfl | trivial | fail) | fail) | fail)) only [go_sem, if_pos, if_neg, wrapI, wrapU, decide_eq_true, decide_eq_false, beqT, beqF, bneT, bneF] <;> rfl); simp only [go_sem]) | ((with_reducible apply ops_skip); rfl; simp only [go_sem]))); (with_reducible refine ops_nil ?_); (with_reducible refine then_normal ?_))
      ((refine c_seq ?_); (with_reducible refine c_region ?_); (repeat (first | ((with_reducible apply ops_pure); rfl; (simp (disch := (first | omega | assumption | ((repeat' with_reducible apply And.intro) <;> first | omega | assumption | rfl | (apply Or.inl; rfl) | (apply Or.inr; first | rfl | trivial | fail) | fail) | fail)) only [go_sem, if_pos, if_neg, wrapI, wrapU, decide_eq_true, decide_eq_false, beqT, beqF, bneT, bneF] <;> rfl); simp only [go_sem]) | ((with_reducible apply ops_eff); decide; rfl; (simp (disch := (first | omega | assumption | ((repeat' with_reducible apply And.intro) <;> first | omega | assumption | rfl | (apply Or.inl; rfl) | (apply Or.inr; first | rfl | trivial | fail) | fail) | fail)) only [go_sem, if_pos, if_neg, wrapI, wrapU, decide_eq_true, decide_eq_false, beqT, beqF, bneT, bneF] <;> rfl); simp only [go_sem]) | ((with_reducible apply ops_skip); rfl; simp only [go_sem]))); (with_reducible refine ops_nil ?_); (with_reducible refine then_normal ?_))
      refine c_seq ?_
      refine c_cut .normal (fun s => ∃ (b : Bool) (d3 : D), (b = fb ∧ (b = true → d3 = .nilS ∧ ws = [] ∨ d3 = .v (LI ws))) ∧ (s.env.length = 149 ∧ s.sto = sto ++ [.cells [.v (VI k), .v (VI n), .v (VI m), .v (.sl l.length (cellsTs l))]] ∧ s.env[1]? = some (.ptr sto.length 0) ∧ s.env[3]? = some (d3) ∧ s.env[4]? = some (.v (.bool b)))) ?_ ?_
      · clear ih
        rcases hk with rfl | rfl | rfl | rfl | rfl | rfl
        · rw [fineS, if_pos rfl] at hfb
          rw [wantS, if_neg (by decide), if_neg (by decide), if_neg (by decide)] at hws
          have hc : ¬ m = 0 ∨ (m = 0 ∧ n < -8) ∨ (m = 0 ∧ ¬ n < -8 ∧ n > 7) ∨ (m = 0 ∧ -8 ≤ n ∧ n ≤ 7) := by omega
          rcases hc with hc | hc | hc | hc
          all_goals
            repeat' (first | (refine go ⟨?_⟩) | (fail) | ((first | (refine bsp ?_ ?_) | (refine csp ?_ ?_)); all_goals (intro hb; (fail_if_success (cases hb; done)); (try simp only [decide_eq_true_eq, decide_eq_false_iff_not, beq_iff_eq, bne_iff_ne, ne_eq, beq_eq_false_iff_ne, bne_eq_false_iff_eq, Bool.not_eq_true', Bool.not_eq_false', Bool.and_eq_true, Bool.or_eq_true, Decidable.not_not] at hb); (try simp only [go_sem]))))
            first | (refine ⟨rfl, false, .nilS, ⟨(hfb.trans (decide_eq_false (by omega))).symm, fun h => (by cases h)⟩, rfl, rfl, ?_, ?_, ?_⟩ <;> rfl) | (refine ⟨rfl, true, .nilS, ⟨(hfb.trans (decide_eq_true (by omega))).symm, fun _ => .inl ⟨rfl, hws⟩⟩, rfl, rfl, ?_, ?_, ?_⟩ <;> rfl) | (refine ⟨rfl, true, .nilS, ⟨(hfb.trans (decide_eq_true (by omega))).symm, fun _ => .inr (by rw [hws])⟩, rfl, rfl, ?_, ?_, ?_⟩ <;> rfl)
        · rw [fineS, if_neg (by decide), if_pos rfl] at hfb
          rw [wantS, if_neg (by decide), if_neg (by decide), if_neg (by decide)] at hws
          have hc : ¬ m = 0 ∨ (m = 0 ∧ n < 0) ∨ (m = 0 ∧ ¬ n < 0 ∧ n > 1) ∨ (m = 0 ∧ 0 ≤ n ∧ n ≤ 1) := by omega
          rcases hc with hc | hc | hc | hc
          all_goals
            repeat' (first | (refine go ⟨?_⟩) | (fail) | ((first | (refine bsp ?_ ?_) | (refine csp ?_ ?_)); all_goals (intro hb; (fail_if_success (cases hb; done)); (try simp only [decide_eq_true_eq, decide_eq_false_iff_not, beq_iff_eq, bne_iff_ne, ne_eq, beq_eq_false_iff_ne, bne_eq_false_iff_eq, Bool.not_eq_true', Bool.not_eq_false', Bool.and_eq_true, Bool.or_eq_true, Decidable.not_not] at hb); (try simp only [go_sem]))))
            first | (refine ⟨rfl, false, .nilS, ⟨(hfb.trans (decide_eq_false (by omega))).symm, fun h => (by cases h)⟩, rfl, rfl, ?_, ?_, ?_⟩ <;> rfl) | (refine ⟨rfl, true, .nilS, ⟨(hfb.trans (decide_eq_true (by omega))).symm, fun _ => .inl ⟨rfl, hws⟩⟩, rfl, rfl, ?_, ?_, ?_⟩ <;> rfl) | (refine ⟨rfl, true, .nilS, ⟨(hfb.trans (decide_eq_true (by omega))).symm, fun _ => .inr (by rw [hws])⟩, rfl, rfl, ?_, ?_, ?_⟩ <;> rfl)
        · rw [fineS, if_neg (by decide), if_neg (by decide), if_pos rfl] at hfb
          rw [wantS, if_neg (by decide), if_neg (by decide), if_neg (by decide)] at hws
          have hc : n < 0 ∨ (¬ n < 0 ∧ n > 63) ∨ (0 ≤ n ∧ n ≤ 63 ∧ m < 0) ∨ (0 ≤ n ∧ n ≤ 63 ∧ ¬ m < 0 ∧ m > 1) ∨ (0 ≤ n ∧ n ≤ 63 ∧ 0 ≤ m ∧ m ≤ 1) := by omega
          have hm : m = 0 ∨ ¬ m = 0 := by omega
          rcases hc with hc | hc | hc | hc | hc
          all_goals rcases hm with hm | hm
          all_goals first | (exfalso; omega) | skip
          all_goals
            repeat' (first | (refine go ⟨?_⟩) | (fail) | ((first | (refine bsp ?_ ?_) | (refine csp ?_ ?_)); all_goals (intro hb; (fail_if_success (cases hb; done)); (try simp only [decide_eq_true_eq, decide_eq_false_iff_not, beq_iff_eq, bne_iff_ne, ne_eq, beq_eq_false_iff_ne, bne_eq_false_iff_eq, Bool.not_eq_true', Bool.not_eq_false', Bool.and_eq_true, Bool.or_eq_true, Decidable.not_not] at hb); (try simp only [go_sem]))))
            first | (refine ⟨rfl, false, .nilS, ⟨(hfb.trans (decide_eq_false (by omega))).symm, fun h => (by cases h)⟩, rfl, rfl, ?_, ?_, ?_⟩ <;> rfl) | (refine ⟨rfl, true, .nilS, ⟨(hfb.trans (decide_eq_true (by omega))).symm, fun _ => .inl ⟨rfl, hws⟩⟩, rfl, rfl, ?_, ?_, ?_⟩ <;> rfl) | (refine ⟨rfl, true, .nilS, ⟨(hfb.trans (decide_eq_true (by omega))).symm, fun _ => .inr (by rw [hws])⟩, rfl, rfl, ?_, ?_, ?_⟩ <;> rfl)
        · rw [fineS, if_neg (by decide), if_neg (by decide), if_neg (by decide), if_pos rfl] at hfb
          rw [wantS, if_pos rfl] at hws
          have hc : n < 0 ∨ n ≥ 14 ∨ n = 12 ∨ n = 13 ∨ (0 ≤ n ∧ n < 12) := by omega
          have hm : m = 0 ∨ ¬ m = 0 := by omega
          rcases hc with hc | hc | hc | hc | hc
          all_goals rcases hm with hm | hm
          all_goals first | rw [if_pos (by omega)] at hws | rw [if_neg (by omega)] at hws
          all_goals
            repeat' (first | (refine go ⟨?_⟩) | (fail) | ((first | (refine bsp ?_ ?_) | (refine csp ?_ ?_)); all_goals (intro hb; (fail_if_success (cases hb; done)); (try simp only [decide_eq_true_eq, decide_eq_false_iff_not, beq_iff_eq, bne_iff_ne, ne_eq, beq_eq_false_iff_ne, bne_eq_false_iff_eq, Bool.not_eq_true', Bool.not_eq_false', Bool.and_eq_true, Bool.or_eq_true, Decidable.not_not] at hb); (try simp only [go_sem]))))
            first
              | (refine ⟨rfl, false, (.v (LI [1, 1])), ⟨(hfb.trans (decide_eq_false (by omega))).symm, fun h => (by cases h)⟩, rfl, rfl, ?_, ?_, ?_⟩ <;> rfl) | (refine ⟨rfl, true, (.v (LI [1, 1])), ⟨(hfb.trans (decide_eq_true (by omega))).symm, fun _ => .inl ⟨rfl, hws⟩⟩, rfl, rfl, ?_, ?_, ?_⟩ <;> rfl) | (refine ⟨rfl, true, (.v (LI [1, 1])), ⟨(hfb.trans (decide_eq_true (by omega))).symm, fun _ => .inr (by rw [hws])⟩, rfl, rfl, ?_, ?_, ?_⟩ <;> rfl) | (refine ⟨rfl, false, (.v (LI [0, 0])), ⟨(hfb.trans (decide_eq_false (by omega))).symm, fun h => (by cases h)⟩, rfl, rfl, ?_, ?_, ?_⟩ <;> rfl) | (refine ⟨rfl, true, (.v (LI [0, 0])), ⟨(hfb.trans (decide_eq_true (by omega))).symm, fun _ => .inl ⟨rfl, hws⟩⟩, rfl, rfl, ?_, ?_, ?_⟩ <;> rfl) | (refine ⟨rfl, true, (.v (LI [0, 0])), ⟨(hfb.trans (decide_eq_true (by omega))).symm, fun _ => .inr (by rw [hws])⟩, rfl, rfl, ?_, ?_, ?_⟩ <;> rfl)
        · rw [fineS, if_neg (by decide), if_neg (by decide), if_neg (by decide), if_neg (by decide), if_pos rfl] at hfb
          rw [wantS, if_neg (by decide), if_pos rfl] at hws
          have hc : n = 0 ∨ ¬ n = 0 := by omega
          have hm : m = 0 ∨ ¬ m = 0 := by omega
          rcases hc with hc | hc
          all_goals rcases hm with hm | hm
          all_goals
            repeat' (first | (refine go ⟨?_⟩) | (fail) | ((first | (refine bsp ?_ ?_) | (refine csp ?_ ?_)); all_goals (intro hb; (fail_if_success (cases hb; done)); (try simp only [decide_eq_true_eq, decide_eq_false_iff_not, beq_iff_eq, bne_iff_ne, ne_eq, beq_eq_false_iff_ne, bne_eq_false_iff_eq, Bool.not_eq_true', Bool.not_eq_false', Bool.and_eq_true, Bool.or_eq_true, Decidable.not_not] at hb); (try simp only [go_sem]))))
            first | (refine ⟨rfl, false, (.v (LI [1])), ⟨(hfb.trans (decide_eq_false (by omega))).symm, fun h => (by cases h)⟩, rfl, rfl, ?_, ?_, ?_⟩ <;> rfl) | (refine ⟨rfl, true, (.v (LI [1])), ⟨(hfb.trans (decide_eq_true (by omega))).symm, fun _ => .inl ⟨rfl, hws⟩⟩, rfl, rfl, ?_, ?_, ?_⟩ <;> rfl) | (refine ⟨rfl, true, (.v (LI [1])), ⟨(hfb.trans (decide_eq_true (by omega))).symm, fun _ => .inr (by rw [hws])⟩, rfl, rfl, ?_, ?_, ?_⟩ <;> rfl)
        · rw [fineS, if_neg (by decide), if_neg (by decide), if_neg (by decide), if_neg (by decide), if_neg (by decide), if_pos rfl] at hfb
          rw [wantS, if_neg (by decide), if_neg (by decide), if_pos rfl] at hws
          have hc : ¬ m = 0 ∨ (m = 0 ∧ ¬ n = 0) ∨ (m = 0 ∧ n = 0 ∧ ¬ l.length = 3) ∨ (m = 0 ∧ n = 0 ∧ l.length = 3) := by omega
          rcases hc with hc | hc | hc | hc
          rotate_left 3
          · obtain ⟨rfl, rfl, h3⟩ := hc
            match l, h3 with
            | [c, a, b'], _ =>
              have hty := fun sto lo hlo => type_ev (tsz a) a sto lo (Nat.le_refl _) (by simp only [tszs] at hs; omega) hlo
              rw [show ([c, a, b'] : List Tr).getD 1 (.mk 0 0 0 []) = a from rfl] at hws
              generalize typeR a = kk at *
              obtain ⟨ka, na, ma, la⟩ := a
              obtain ⟨kc, nc, mc, lc⟩ := c
              obtain ⟨kb, nb, mb, lb⟩ := b'
              repeat' (first | (refine go ⟨?_⟩) | (((refine call ?_); (refine ⟨_, hty _ _ (by first | omega | (simp; done) | (simp; omega)), ?_⟩); (try simp only [go_sem]))) | ((first | (refine bsp ?_ ?_) | (refine csp ?_ ?_)); all_goals (intro hb; (fail_if_success (cases hb; done)); (try simp only [decide_eq_true_eq, decide_eq_false_iff_not, beq_iff_eq, bne_iff_ne, ne_eq, beq_eq_false_iff_ne, bne_eq_false_iff_eq, Bool.not_eq_true', Bool.not_eq_false', Bool.and_eq_true, Bool.or_eq_true, Decidable.not_not] at hb); (try simp only [go_sem]))))
              refine ⟨rfl, true, (.v (LI [1, kk, kk])), ⟨(hfb.trans (decide_eq_true (by simp))).symm, fun _ => .inr (by rw [hws])⟩, rfl, rfl, ?_, ?_, ?_⟩ <;> rfl
          all_goals
            repeat' (first | (refine go ⟨?_⟩) | (fail) | ((first | (refine bsp ?_ ?_) | (refine csp ?_ ?_)); all_goals (intro hb; (fail_if_success (cases hb; done)); (try simp only [decide_eq_true_eq, decide_eq_false_iff_not, beq_iff_eq, bne_iff_ne, ne_eq, beq_eq_false_iff_ne, bne_eq_false_iff_eq, Bool.not_eq_true', Bool.not_eq_false', Bool.and_eq_true, Bool.or_eq_true, Decidable.not_not] at hb); (try simp only [go_sem]))))
            first | (refine ⟨rfl, false, .nilS, ⟨(hfb.trans (decide_eq_false (by omega))).symm, fun h => (by cases h)⟩, rfl, rfl, ?_, ?_, ?_⟩ <;> rfl) | (refine ⟨rfl, true, .nilS, ⟨(hfb.trans (decide_eq_true (by omega))).symm, fun _ => .inl ⟨rfl, hws⟩⟩, rfl, rfl, ?_, ?_, ?_⟩ <;> rfl) | (refine ⟨rfl, true, .nilS, ⟨(hfb.trans (decide_eq_true (by omega))).symm, fun _ => .inr (by rw [hws])⟩, rfl, rfl, ?_, ?_, ?_⟩ <;> rfl)
      rintro s ⟨b, d3, ⟨rfl, hd⟩, hL, hT, k1, k3, k4⟩
      obtain ⟨env, st0⟩ := s; obtain ⟨J, hJ⟩ := listJ hL; rw [show (List.range 149).map J = J 0 :: J 1 :: J 2 :: J 3 :: J 4 :: J 5 :: J 6 :: J 7 :: J 8 :: J 9 :: J 10 :: J 11 :: J 12 :: J 13 :: J 14 :: J 15 :: J 16 :: J 17 :: J 18 :: J 19 :: J 20 :: J 21 :: J 22 :: J 23 :: J 24 :: J 25 :: J 26 :: J 27 :: J 28 :: J 29 :: J 30 :: J 31 :: J 32 :: J 33 :: J 34 :: J 35 :: J 36 :: J 37 :: J 38 :: J 39 :: J 40 :: J 41 :: J 42 :: J 43 :: J 44 :: J 45 :: J 46 :: J 47 :: J 48 :: J 49 :: J 50 :: J 51 :: J 52 :: J 53 :: J 54 :: J 55 :: J 56 :: J 57 :: J 58 :: J 59 :: J 60 :: J 61 :: J 62 :: J 63 :: J 64 :: J 65 :: J 66 :: J 67 :: J 68 :: J 69 :: J 70 :: J 71 :: J 72 :: J 73 :: J 74 :: J 75 :: J 76 :: J 77 :: J 78 :: J 79 :: J 80 :: J 81 :: J 82 :: J 83 :: J 84 :: J 85 :: J 86 :: J 87 :: J 88 :: J 89 :: J 90 :: J 91 :: J 92 :: J 93 :: J 94 :: J 95 :: J 96 :: J 97 :: J 98 :: J 99 :: J 100 :: J 101 :: J 102 :: J 103 :: J 104 :: J 105 :: J 106 :: J 107 :: J 108 :: J 109 :: J 110 :: J 111 :: J 112 :: J 113 :: J 114 :: J 115 :: J 116 :: J 117 :: J 118 :: J 119 :: J 120 :: J 121 :: J 122 :: J 123 :: J 124 :: J 125 :: J 126 :: J 127 :: J 128 :: J 129 :: J 130 :: J 131 :: J 132 :: J 133 :: J 134 :: J 135 :: J 136 :: J 137 :: J 138 :: J 139 :: J 140 :: J 141 :: J 142 :: J 143 :: J 144 :: J 145 :: J 146 :: J 147 :: J 148 :: [] from by kernel_rfl] at hJ; replace k1 := Option.some.inj ((congrArg (·[1]?) hJ).symm.trans k1); replace k3 := Option.some.inj ((congrArg (·[3]?) hJ).symm.trans k3); replace k4 := Option.some.inj ((congrArg (·[4]?) hJ).symm.trans k4); rw [k1, k3, k4] at hJ; dsimp only at hJ hT; subst hJ; replace hT := hT.symm; subst hT; clear hL k1 k3 k4
      refine then_normal ?_
      clear hfb hk
      have hwl : ws.length ≤ 3 := by rw [hws]; unfold wantS; (repeat' split) <;> simp
      clear hws
      cases b with
      | false =>
        repeat' (first | (refine go ⟨?_⟩) | (fail) | ((first | (refine bsp ?_ ?_) | (refine csp ?_ ?_)); all_goals (intro hb; (fail_if_success (cases hb; done)); (try simp only [decide_eq_true_eq, decide_eq_false_iff_not, beq_iff_eq, bne_iff_ne, ne_eq, beq_eq_false_iff_ne, bne_eq_false_iff_eq, Bool.not_eq_true', Bool.not_eq_false', Bool.and_eq_true, Bool.or_eq_true, Decidable.not_not] at hb); (try simp only [go_sem]))))
        refine ⟨by first | exact .inr rfl | exact .inl rfl, .inl ⟨[], _, (by dsimp only [Tryd.f43]; exact sv), ?_, by simp⟩⟩
        rfl
      | true =>
        rw [Bool.true_and]
        by_cases hlw : l.length = ws.length
        · rcases hd rfl with ⟨rfl, hw0⟩ | rfl
          all_goals clear hd
          case' inl =>
            have hl0 : l.length = 0 := by rw [hlw, hw0]; rfl
            repeat' (first | (refine go ⟨?_⟩) | (fail) | ((first | (refine bsp ?_ ?_) | (refine csp ?_ ?_)); all_goals (intro hb; (fail_if_success (cases hb; done)); (try simp only [decide_eq_true_eq, decide_eq_false_iff_not, beq_iff_eq, bne_iff_ne, ne_eq, beq_eq_false_iff_ne, bne_eq_false_iff_eq, Bool.not_eq_true', Bool.not_eq_false', Bool.and_eq_true, Bool.or_eq_true, Decidable.not_not] at hb); (try simp only [go_sem]))))
            refine c_loop (fun mm s => ∃ (i : Nat) (js : List Ent), (i ≤ ws.length ∧ mm = ws.length - i ∧ ∀ (j : Nat) (h1 : j < l.length) (h2 : j < ws.length), j < i → shapedS l[j] = true ∧ typeR l[j] = ws[j]) ∧ (s.env.length = 149 ∧ s.sto = sto ++ .cells [.v (VI k), .v (VI n), .v (VI m), .v (.sl l.length (cellsTs l))] :: js ∧ s.env[1]? = some (.ptr sto.length 0) ∧ s.env[3]? = some (.v (LI ws)) ∧ s.env[6]? = some (.v (VI i)))) (.view _ 3 .nilS (.sl 0 []) rfl rfl) ⟨0, [], ⟨by omega, rfl, fun j _ _ h => absurd h (by omega)⟩, rfl, ?_, ?_, ?_, ?_⟩ ?_
          case' inr =>
            repeat' (first | (refine go ⟨?_⟩) | (fail) | ((first | (refine bsp ?_ ?_) | (refine csp ?_ ?_)); all_goals (intro hb; (fail_if_success (cases hb; done)); (try simp only [decide_eq_true_eq, decide_eq_false_iff_not, beq_iff_eq, bne_iff_ne, ne_eq, beq_eq_false_iff_ne, bne_eq_false_iff_eq, Bool.not_eq_true', Bool.not_eq_false', Bool.and_eq_true, Bool.or_eq_true, Decidable.not_not] at hb); (try simp only [go_sem]))))
            refine c_loop (fun mm s => ∃ (i : Nat) (js : List Ent), (i ≤ ws.length ∧ mm = ws.length - i ∧ ∀ (j : Nat) (h1 : j < l.length) (h2 : j < ws.length), j < i → shapedS l[j] = true ∧ typeR l[j] = ws[j]) ∧ (s.env.length = 149 ∧ s.sto = sto ++ .cells [.v (VI k), .v (VI n), .v (VI m), .v (.sl l.length (cellsTs l))] :: js ∧ s.env[1]? = some (.ptr sto.length 0) ∧ s.env[3]? = some (.v (LI ws)) ∧ s.env[6]? = some (.v (VI i)))) (.refl _) ⟨0, [], ⟨by omega, rfl, fun j _ _ h => absurd h (by omega)⟩, rfl, ?_, ?_, ?_, ?_⟩ ?_
          all_goals first | rfl | (subst hw0; rfl) | skip
          · rintro mm s ⟨i, js, ⟨h1, rfl, h3⟩, hL, hT, k1, k3, k6⟩
            obtain ⟨env, st0⟩ := s; obtain ⟨J, hJ⟩ := listJ hL; rw [show (List.range 149).map J = J 0 :: J 1 :: J 2 :: J 3 :: J 4 :: J 5 :: J 6 :: J 7 :: J 8 :: J 9 :: J 10 :: J 11 :: J 12 :: J 13 :: J 14 :: J 15 :: J 16 :: J 17 :: J 18 :: J 19 :: J 20 :: J 21 :: J 22 :: J 23 :: J 24 :: J 25 :: J 26 :: J 27 :: J 28 :: J 29 :: J 30 :: J 31 :: J 32 :: J 33 :: J 34 :: J 35 :: J 36 :: J 37 :: J 38 :: J 39 :: J 40 :: J 41 :: J 42 :: J 43 :: J 44 :: J 45 :: J 46 :: J 47 :: J 48 :: J 49 :: J 50 :: J 51 :: J 52 :: J 53 :: J 54 :: J 55 :: J 56 :: J 57 :: J 58 :: J 59 :: J 60 :: J 61 :: J 62 :: J 63 :: J 64 :: J 65 :: J 66 :: J 67 :: J 68 :: J 69 :: J 70 :: J 71 :: J 72 :: J 73 :: J 74 :: J 75 :: J 76 :: J 77 :: J 78 :: J 79 :: J 80 :: J 81 :: J 82 :: J 83 :: J 84 :: J 85 :: J 86 :: J 87 :: J 88 :: J 89 :: J 90 :: J 91 :: J 92 :: J 93 :: J 94 :: J 95 :: J 96 :: J 97 :: J 98 :: J 99 :: J 100 :: J 101 :: J 102 :: J 103 :: J 104 :: J 105 :: J 106 :: J 107 :: J 108 :: J 109 :: J 110 :: J 111 :: J 112 :: J 113 :: J 114 :: J 115 :: J 116 :: J 117 :: J 118 :: J 119 :: J 120 :: J 121 :: J 122 :: J 123 :: J 124 :: J 125 :: J 126 :: J 127 :: J 128 :: J 129 :: J 130 :: J 131 :: J 132 :: J 133 :: J 134 :: J 135 :: J 136 :: J 137 :: J 138 :: J 139 :: J 140 :: J 141 :: J 142 :: J 143 :: J 144 :: J 145 :: J 146 :: J 147 :: J 148 :: [] from by kernel_rfl] at hJ; replace k1 := Option.some.inj ((congrArg (·[1]?) hJ).symm.trans k1); replace k3 := Option.some.inj ((congrArg (·[3]?) hJ).symm.trans k3); replace k6 := Option.some.inj ((congrArg (·[6]?) hJ).symm.trans k6); rw [k1, k3, k6] at hJ; dsimp only at hJ hT; subst hJ; replace hT := hT.symm; subst hT; clear hL k1 k3 k6
            by_cases hi : i < ws.length
            · have hil : i < l.length := by omega
              have hz := tsz_get hil
              have hsh := fun sto lo hlo => ih l[i] sto lo (by omega) (by omega) hlo
              have hty := fun sto lo hlo => type_ev (tsz l[i]) l[i] sto lo (Nat.le_refl _) (by omega) hlo
              have hbad := fun h => shapedL_bad (l := l) (ws := ws) hil hi h
              have hnx : shapedS l[i] = true → typeR l[i] = ws[i] → ∀ (j : Nat) (h1 : j < l.length) (h2 : j < ws.length), j < i + 1 → shapedS l[j] = true ∧ typeR l[j] = ws[j] := by
                intro q1 q2 j r1 r2 r3
                rcases Nat.lt_or_ge j i with h | h
                · exact h3 j r1 r2 h
                · obtain rfl : j = i := by omega
                  exact ⟨q1, q2⟩
              clear ih h3
              generalize hsb : shapedS l[i] = sb at *
              generalize htb : typeR l[i] = tb at *
              have e : ∃ k2 n2 m2 l2, l[i] = .mk k2 n2 m2 l2 := by
                cases l[i] with
                | mk a b c d => exact ⟨a, b, c, d, rfl⟩
              obtain ⟨k2, n2, m2, l2, e⟩ := e
              rw [e] at hsh hty
              clear hsb htb hz
              cases sb with
              | false =>
                rw [hbad (fun h => by cases h.1)]
                clear hbad hnx
                repeat' (first | (refine go ⟨?_⟩) | (fail) | ((first | (refine bsp ?_ ?_) | (refine csp ?_ ?_)); all_goals (intro hb; (fail_if_success (cases hb; done)); (try simp only [decide_eq_true_eq, decide_eq_false_iff_not, beq_iff_eq, bne_iff_ne, ne_eq, beq_eq_false_iff_ne, bne_eq_false_iff_eq, Bool.not_eq_true', Bool.not_eq_false', Bool.and_eq_true, Bool.or_eq_true, Decidable.not_not] at hb); (try simp only [go_sem]))))
                rw [e]
                repeat' (first | (refine go ⟨?_⟩) | (first | ((refine call ?_); (refine ⟨_, hsh _ _ (by first | omega | (simp; done) | (simp; omega)), ?_⟩); (try simp only [go_sem])) | ((refine call ?_); (refine ⟨_, hty _ _ (by first | omega | (simp; done) | (simp; omega)), ?_⟩); (try simp only [go_sem]))) | ((first | (refine bsp ?_ ?_) | (refine csp ?_ ?_)); all_goals (intro hb; (fail_if_success (cases hb; done)); (try simp only [decide_eq_true_eq, decide_eq_false_iff_not, beq_iff_eq, bne_iff_ne, ne_eq, beq_eq_false_iff_ne, bne_eq_false_iff_eq, Bool.not_eq_true', Bool.not_eq_false', Bool.and_eq_true, Bool.or_eq_true, Decidable.not_not] at hb); (try simp only [go_sem]))))
                refine ⟨by first | exact .inr rfl | exact .inl rfl, .inl ⟨[], _, (by dsimp only [Tryd.f43]; exact sv), ?_, by simp⟩⟩
                rfl
              | true =>
                by_cases hw : tb = ws[i]
                · have hnx' := hnx rfl hw
                  clear hbad hnx
                  repeat' (first | (refine go ⟨?_⟩) | (fail) | ((first | (refine bsp ?_ ?_) | (refine csp ?_ ?_)); all_goals (intro hb; (fail_if_success (cases hb; done)); (try simp only [decide_eq_true_eq, decide_eq_false_iff_not, beq_iff_eq, bne_iff_ne, ne_eq, beq_eq_false_iff_ne, bne_eq_false_iff_eq, Bool.not_eq_true', Bool.not_eq_false', Bool.and_eq_true, Bool.or_eq_true, Decidable.not_not] at hb); (try simp only [go_sem]))))
                  rw [e]
                  repeat' (first | (refine go ⟨?_⟩) | (first | ((refine call ?_); (refine ⟨_, hsh _ _ (by first | omega | (simp; done) | (simp; omega)), ?_⟩); (try simp only [go_sem])) | ((refine call ?_); (refine ⟨_, hty _ _ (by first | omega | (simp; done) | (simp; omega)), ?_⟩); (try simp only [go_sem])) | (rw [e])) | ((first | (refine bsp ?_ ?_) | (refine csp ?_ ?_)); all_goals (intro hb; (fail_if_success (cases hb; done)); (try simp only [decide_eq_true_eq, decide_eq_false_iff_not, beq_iff_eq, bne_iff_ne, ne_eq, beq_eq_false_iff_ne, bne_eq_false_iff_eq, Bool.not_eq_true', Bool.not_eq_false', Bool.and_eq_true, Bool.or_eq_true, Decidable.not_not] at hb); (try simp only [go_sem]))))
                  refine ⟨_, _, ?_, .refl _, i + 1, _, ⟨by omega, rfl, hnx'⟩, rfl, rfl, ?_, ?_, ?_⟩
                  · omega
                  all_goals rfl
                · rw [hbad (fun h => hw h.2)]
                  clear hbad hnx
                  repeat' (first | (refine go ⟨?_⟩) | (fail) | ((first | (refine bsp ?_ ?_) | (refine csp ?_ ?_)); all_goals (intro hb; (fail_if_success (cases hb; done)); (try simp only [decide_eq_true_eq, decide_eq_false_iff_not, beq_iff_eq, bne_iff_ne, ne_eq, beq_eq_false_iff_ne, bne_eq_false_iff_eq, Bool.not_eq_true', Bool.not_eq_false', Bool.and_eq_true, Bool.or_eq_true, Decidable.not_not] at hb); (try simp only [go_sem]))))
                  rw [e]
                  repeat' (first | (refine go ⟨?_⟩) | (first | ((refine call ?_); (refine ⟨_, hsh _ _ (by first | omega | (simp; done) | (simp; omega)), ?_⟩); (try simp only [go_sem])) | ((refine call ?_); (refine ⟨_, hty _ _ (by first | omega | (simp; done) | (simp; omega)), ?_⟩); (try simp only [go_sem])) | (rw [e])) | ((first | (refine bsp ?_ ?_) | (refine csp ?_ ?_)); all_goals (intro hb; (fail_if_success (cases hb; done)); (try simp only [decide_eq_true_eq, decide_eq_false_iff_not, beq_iff_eq, bne_iff_ne, ne_eq, beq_eq_false_iff_ne, bne_eq_false_iff_eq, Bool.not_eq_true', Bool.not_eq_false', Bool.and_eq_true, Bool.or_eq_true, Decidable.not_not] at hb); (try simp only [go_sem]))))
                  refine ⟨by first | exact .inr rfl | exact .inl rfl, .inl ⟨[], _, (by dsimp only [Tryd.f43]; exact sv), ?_, by simp⟩⟩
                  rfl
            · rw [shapedL_all hlw (fun j r1 r2 => h3 j r1 r2 (by omega))]
              clear h3 ih
              repeat' (first | (refine go ⟨?_⟩) | (fail) | ((first | (refine bsp ?_ ?_) | (refine csp ?_ ?_)); all_goals (intro hb; (fail_if_success (cases hb; done)); (try simp only [decide_eq_true_eq, decide_eq_false_iff_not, beq_iff_eq, bne_iff_ne, ne_eq, beq_eq_false_iff_ne, bne_eq_false_iff_eq, Bool.not_eq_true', Bool.not_eq_false', Bool.and_eq_true, Bool.or_eq_true, Decidable.not_not] at hb); (try simp only [go_sem]))))
              refine ⟨by first | exact .inr rfl | exact .inl rfl, .inl ⟨[], _, (by dsimp only [Tryd.f43]; exact sv), ?_, by simp⟩⟩
              rfl
          · rintro mm s ⟨i, js, ⟨h1, rfl, h3⟩, hL, hT, k1, k3, k6⟩
            obtain ⟨env, st0⟩ := s; obtain ⟨J, hJ⟩ := listJ hL; rw [show (List.range 149).map J = J 0 :: J 1 :: J 2 :: J 3 :: J 4 :: J 5 :: J 6 :: J 7 :: J 8 :: J 9 :: J 10 :: J 11 :: J 12 :: J 13 :: J 14 :: J 15 :: J 16 :: J 17 :: J 18 :: J 19 :: J 20 :: J 21 :: J 22 :: J 23 :: J 24 :: J 25 :: J 26 :: J 27 :: J 28 :: J 29 :: J 30 :: J 31 :: J 32 :: J 33 :: J 34 :: J 35 :: J 36 :: J 37 :: J 38 :: J 39 :: J 40 :: J 41 :: J 42 :: J 43 :: J 44 :: J 45 :: J 46 :: J 47 :: J 48 :: J 49 :: J 50 :: J 51 :: J 52 :: J 53 :: J 54 :: J 55 :: J 56 :: J 57 :: J 58 :: J 59 :: J 60 :: J 61 :: J 62 :: J 63 :: J 64 :: J 65 :: J 66 :: J 67 :: J 68 :: J 69 :: J 70 :: J 71 :: J 72 :: J 73 :: J 74 :: J 75 :: J 76 :: J 77 :: J 78 :: J 79 :: J 80 :: J 81 :: J 82 :: J 83 :: J 84 :: J 85 :: J 86 :: J 87 :: J 88 :: J 89 :: J 90 :: J 91 :: J 92 :: J 93 :: J 94 :: J 95 :: J 96 :: J 97 :: J 98 :: J 99 :: J 100 :: J 101 :: J 102 :: J 103 :: J 104 :: J 105 :: J 106 :: J 107 :: J 108 :: J 109 :: J 110 :: J 111 :: J 112 :: J 113 :: J 114 :: J 115 :: J 116 :: J 117 :: J 118 :: J 119 :: J 120 :: J 121 :: J 122 :: J 123 :: J 124 :: J 125 :: J 126 :: J 127 :: J 128 :: J 129 :: J 130 :: J 131 :: J 132 :: J 133 :: J 134 :: J 135 :: J 136 :: J 137 :: J 138 :: J 139 :: J 140 :: J 141 :: J 142 :: J 143 :: J 144 :: J 145 :: J 146 :: J 147 :: J 148 :: [] from by kernel_rfl] at hJ; replace k1 := Option.some.inj ((congrArg (·[1]?) hJ).symm.trans k1); replace k3 := Option.some.inj ((congrArg (·[3]?) hJ).symm.trans k3); replace k6 := Option.some.inj ((congrArg (·[6]?) hJ).symm.trans k6); rw [k1, k3, k6] at hJ; dsimp only at hJ hT; subst hJ; replace hT := hT.symm; subst hT; clear hL k1 k3 k6
            have hi : ¬ i < ws.length := by rw [hw0]; simp
            rw [shapedL_all hlw (fun j r1 r2 => h3 j r1 r2 (by omega))]
            clear h3 ih
            repeat' (first | (refine go ⟨?_⟩) | (fail) | ((first | (refine bsp ?_ ?_) | (refine csp ?_ ?_)); all_goals (intro hb; (fail_if_success (cases hb; done)); (try simp only [decide_eq_true_eq, decide_eq_false_iff_not, beq_iff_eq, bne_iff_ne, ne_eq, beq_eq_false_iff_ne, bne_eq_false_iff_eq, Bool.not_eq_true', Bool.not_eq_false', Bool.and_eq_true, Bool.or_eq_true, Decidable.not_not] at hb); (try simp only [go_sem]))))
            refine ⟨by first | exact .inr rfl | exact .inl rfl, .inl ⟨[], _, (by dsimp only [Tryd.f43]; exact sv), ?_, by simp⟩⟩
            rfl
        · rw [shapedL_len hlw]
          rcases hd rfl with ⟨rfl, rfl⟩ | rfl
          all_goals
            clear ih hd
            try simp only [List.length_nil] at hlw
            repeat' (first | (refine go ⟨?_⟩) | (fail) | ((first | (refine bsp ?_ ?_) | (refine csp ?_ ?_)); all_goals (intro hb; (fail_if_success (cases hb; done)); (try simp only [decide_eq_true_eq, decide_eq_false_iff_not, beq_iff_eq, bne_iff_ne, ne_eq, beq_eq_false_iff_ne, bne_eq_false_iff_eq, Bool.not_eq_true', Bool.not_eq_false', Bool.and_eq_true, Bool.or_eq_true, Decidable.not_not] at hb); (try simp only [go_sem]))))
            refine ⟨by first | exact .inr rfl | exact .inl rfl, .inl ⟨[], _, (by dsimp only [Tryd.f43]; exact sv), ?_, by simp⟩⟩
            rfl
    · have hf : fineS k n m l = false := by
        unfold fineS
        rw [if_neg (by omega), if_neg (by omega), if_neg (by omega), if_neg (by omega), if_neg (by omega), if_neg (by omega)]
      rw [hf, Bool.false_and]
      obtain ⟨c1, c2, c3, c4, c5, c6⟩ : (¬ k = 4 ∧ ¬ k = 5 ∧ ¬ k = 6 ∧ ¬ k = 9 ∧ ¬ k = 10 ∧ ¬ k = 29) := by omega
      clear hk hf ih
      refine CallEv.intro ⟨_, _, [], Tryd.func43, rfl, by decide, ?_⟩; simp only [go_sem, Tryd.ntmps43]
      repeat' (first | (refine go ⟨?_⟩) | (fail) | ((first | (refine bsp ?_ ?_) | (refine csp ?_ ?_)); all_goals (intro hb; (fail_if_success (cases hb; done)); (try simp only [decide_eq_true_eq, decide_eq_false_iff_not, beq_iff_eq, bne_iff_ne, ne_eq, beq_eq_false_iff_ne, bne_eq_false_iff_eq, Bool.not_eq_true', Bool.not_eq_false', Bool.and_eq_true, Bool.or_eq_true, Decidable.not_not] at hb); (try simp only [go_sem]))))
      refine ⟨by first | exact .inr rfl | exact .inl rfl, .inl ⟨[], _, (by dsimp only [Tryd.f43]; exact sv), ?_, by simp⟩⟩
      rfl
end Go.Proofs.YtomameefmobnlaaDoor
