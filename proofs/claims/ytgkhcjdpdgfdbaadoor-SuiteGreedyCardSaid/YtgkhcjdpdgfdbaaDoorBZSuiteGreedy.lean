/-
  SuiteGreedy: its walk. No condition of its own. SuiteGreedy of layer 37: whatever the input, it returns true. The card ties math/bits' tables to the program's text.
-/
import Derived.Test.YtgkhcjdpdgfdbaaDoorB4
import Derived.Test.YtgkhcjdpdgfdbaaDoorCards
import Derived.Test.YtgkhcjdpdgfdbaaDoorTie
import Derived.Test.YtgkhcjdpdgfdbaaDoorB3
import Derived.SevenTiedAt
namespace Go.Proofs.YtgkhcjdpdgfdbaaDoor
open Go Go.RowKit

attribute [local irreducible] EvOps EvC
attribute [local go_sem] List.getElem?_toArray getS List.flatten_cons List.flatten_nil List.contains_nil
set_option linter.unusedSimpArgs false
set_option linter.unusedVariables false
set_option maxRecDepth 100000
set_option maxHeartbeats 40000000
theorem left_one {r : List Int} (t : Int) : leftS [r] [t] = if 0 < r.length ∧ t ∉ r then [0] else [] := by
  have h : leftB [r] [t] 0 = decide (0 < r.length ∧ t ∉ r) := by
    rw [leftB, Bool.eq_iff_iff, decide_eq_true_eq, Bool.and_eq_true, decide_eq_true_eq, Bool.not_eq_true', meetsS, List.any_eq_false]
    simp only [List.getD_cons_zero, List.mem_singleton, decide_eq_true_eq]
    exact ⟨fun ⟨a, b⟩ => ⟨a, fun c => b t c rfl⟩, fun ⟨a, b⟩ => ⟨a, fun x hx e => b (e ▸ hx)⟩⟩
  unfold leftS
  rw [show List.range [r].length = [0] from rfl, List.filter_cons, List.filter_nil, h]
  simp only [decide_eq_true_eq]
theorem nT_take (rows : List (List Int)) (t i : Nat) (h : i < rows.length) : nT (rows.take (i + 1)) t = nT (rows.take i) t + if (t : Int) ∈ rows[i] then 1 else 0 := by
  rw [List.take_succ_eq_append_getElem h, nT, nT, List.countP_append, List.countP_cons, List.countP_nil]
  simp
theorem suiteGreedy_ev (l m : List Int) (how : Int) (hl : l.length < 9223372036854775808) (hlx : ∀ x ∈ l, Big x) (hm : m.length < 9223372036854775808) (hmx : ∀ x ∈ m, Big x) (hh : Big how) (sto : Sto) (lo : Nat) (hlo : lo ≤ sto.length) : CallEv Tryd.prog tab collB 5 [.v (LI l), .v (LI m), .v (VI how)] sto lo (.v (.bool true)) sto := by
  have hd := drawn l m
  have hcs := fun sto lo hlo => (refCosts_ev m hm hmx sto lo hlo).up0 (B := collB)
  have hrs := fun sto lo hlo => (refRows_ev l (costsS m).length hl hlx (by omega) (by have := hd.many; omega) sto lo hlo).up0 (B := collB)
  generalize costsS m = cost at *
  generalize rowsS l cost.length = rows at *
  obtain ⟨d1, d2, d3, d4, d5⟩ := id hd
  have hp := hd.poss
  have hmk := maskOK hp
  have hrl : ∀ r ∈ rows, r.length < 1000000 := fun r hr => by have := d2 r hr; omega
  have hof := fun sto lo hlo => (lawOf_ev rows (by omega) sto lo hlo).up0 (B := collB)
  have hle := fun sto lo hlo => Least_ev rows cost (by omega) hrl hp (by omega) sto lo hlo
  have hgr := fun sto lo hlo => (greedy_ev rows cost (by omega) hrl (by omega) sto lo hlo).up0 (B := collB)
  simp only [hp, if_true] at hgr
  have hrg := fun sto lo hlo => (refGreedy_ev rows cost hp sto lo hlo hrl).up0 (B := collB)
  have hbl : (ints (bitsN (leastN (rows.map maskS) cost))).length ≤ 64 := by simpa using subsetS_length _ 64
  have hgl : (ints (bitsN (greedyN (rows.map maskS) cost))).length ≤ 64 := by simpa using subsetS_length _ 64
  have hbi : In cost.length (ints (bitsN (leastN (rows.map maskS) cost))) := bitsN_in (leastN_lt _ _) (by omega)
  have hgi : In cost.length (ints (bitsN (greedyN (rows.map maskS) cost))) := bitsN_in (greedyN_lt hmk) (by omega)
  have hsi := fun sto lo hlo => (sameInts_ev (ints (bitsN (greedyN (rows.map maskS) cost))) (ints (bitsN (greedyN (rows.map maskS) cost))) (by omega) (by omega) sto lo hlo).up0 (B := collB)
  rw [decide_eq_true rfl] at hsi
  have hs1 := fun sto lo hlo => (refSuite_ev rows cost (ints (bitsN (greedyN (rows.map maskS) cost))) (by omega) hrl (by omega) (by omega) sto lo hlo).up0 (B := collB)
  rw [greedy_suite hp] at hs1
  have hs2 := fun sto lo hlo => (refSuite_ev rows cost (ints (bitsN (leastN (rows.map maskS) cost))) (by omega) hrl (by omega) (by omega) sto lo hlo).up0 (B := collB)
  rw [least_suite hp] at hs2
  have hp1 := fun sto lo hlo => (refPrice_ev (ints (bitsN (greedyN (rows.map maskS) cost))) cost d3 hgi (by omega) sto lo hlo).up0 (B := collB)
  have hp2 := fun sto lo hlo => (refPrice_ev (ints (bitsN (leastN (rows.map maskS) cost))) cost d3 hbi (by omega) sto lo hlo).up0 (B := collB)
  have hge := greedy_price hp
  have hb2 := priceS_bound d3 (ints (bitsN (leastN (rows.map maskS) cost)))
  obtain ⟨hm1, hm2⟩ := mostT_le rows cost.length
  have hmul : (mostT rows cost.length : Int) * priceS cost (ints (bitsN (leastN (rows.map maskS) cost))) ≤ 10 * 67108864 := Int.mul_le_mul (by omega) (by omega) hb2.1 (by omega)
  have hmul0 : 0 ≤ (mostT rows cost.length : Int) * priceS cost (ints (bitsN (leastN (rows.map maskS) cost))) := Int.mul_nonneg (by omega) hb2.1
  generalize priceS cost (ints (bitsN (leastN (rows.map maskS) cost))) = sb at *
  generalize priceS cost (ints (bitsN (greedyN (rows.map maskS) cost))) = sg at *
  generalize ints (bitsN (leastN (rows.map maskS) cost)) = best at *
  generalize ints (bitsN (greedyN (rows.map maskS) cost)) = g at *
  generalize certC (rows.map maskS) cost = kc at *
  obtain ⟨kr, kp, kk⟩ := kc
  have hX := Lib.hid (And.intro hp1 (And.intro hp2 (And.intro d2 hge)))
  clear hp1 hp2 hmk hp d5 hbi hgi hrl hge hd
  refine CallEv.intro ⟨_, _, [], Tryd.func5, rfl, by decide, ?_⟩; simp only [go_sem, Tryd.ntmps5]
  repeat' (first | (refine go ⟨?_⟩) | (first | ((refine call ?_); (refine ⟨_, hcs _ _ (by first | omega | (simp; done) | (simp; omega)), ?_⟩); (try simp only [go_sem])) | ((refine call ?_); (refine ⟨_, hrs _ _ (by first | omega | (simp; done) | (simp; omega)), ?_⟩); (try simp only [go_sem])) | ((refine call ?_); (refine ⟨_, hof _ _ (by first | omega | (simp; done) | (simp; omega)), ?_⟩); (try simp only [go_sem])) | ((refine call ?_); (refine ⟨_, hgr _ _ (by first | omega | (simp; done) | (simp; omega)), ?_⟩); (try simp only [go_sem])) | ((refine call ?_); (refine ⟨_, hrg _ _ (by first | omega | (simp; done) | (simp; omega)), ?_⟩); (try simp only [go_sem])) | ((refine call ?_); (refine ⟨_, hsi _ _ (by first | omega | (simp; done) | (simp; omega)), ?_⟩); (try simp only [go_sem])) | ((refine call ?_); (refine ⟨_, hs1 _ _ (by first | omega | (simp; done) | (simp; omega)), ?_⟩); (try simp only [go_sem])) | ((refine call ?_); (refine ⟨_, hle _ _ (by first | omega | (simp; done) | (simp; omega)), ?_⟩); (try simp only [go_sem])) | ((refine call ?_); (refine ⟨_, hs2 _ _ (by first | omega | (simp; done) | (simp; omega)), ?_⟩); (try simp only [go_sem]))) | ((first | (refine bsp ?_ ?_) | (refine csp ?_ ?_)); all_goals (intro hb; (fail_if_success (cases hb; done)); (try simp only [decide_eq_true_eq, decide_eq_false_iff_not, beq_iff_eq, bne_iff_ne, ne_eq, beq_eq_false_iff_ne, bne_eq_false_iff_eq, Bool.not_eq_true', Bool.not_eq_false', Bool.and_eq_true, Bool.or_eq_true, Decidable.not_not] at hb); (try simp only [go_sem]))))
  refine cut_c (P := fun s => ∃ js, (s.env.length = 134 ∧ s.sto = sto ++ js ∧ s.env[2]? = some (.v (VI how)) ∧ s.env[7]? = some (.v (LI cost)) ∧ s.env[8]? = some (.v (LLI rows)) ∧ s.env[9]? = some (.v (LI g)) ∧ s.env[11]? = some (.v (LI best)) ∧ s.env[14]? = some (.v (VI 1)) ∧ s.env[15]? = some (.v (VI 0)))) ⟨_, rfl, rfl, ?_, ?_, ?_, ?_, ?_, ?_, ?_⟩ ?_
  all_goals first | rfl | skip
  rintro s ⟨js, hL, hT, k2, k7, k8, k9, k11, k14, k15⟩
  obtain ⟨env, st0⟩ := s; obtain ⟨J, hJ⟩ := listJ hL; rw [show (List.range 134).map J = J 0 :: J 1 :: J 2 :: J 3 :: J 4 :: J 5 :: J 6 :: J 7 :: J 8 :: J 9 :: J 10 :: J 11 :: J 12 :: J 13 :: J 14 :: J 15 :: J 16 :: J 17 :: J 18 :: J 19 :: J 20 :: J 21 :: J 22 :: J 23 :: J 24 :: J 25 :: J 26 :: J 27 :: J 28 :: J 29 :: J 30 :: J 31 :: J 32 :: J 33 :: J 34 :: J 35 :: J 36 :: J 37 :: J 38 :: J 39 :: J 40 :: J 41 :: J 42 :: J 43 :: J 44 :: J 45 :: J 46 :: J 47 :: J 48 :: J 49 :: J 50 :: J 51 :: J 52 :: J 53 :: J 54 :: J 55 :: J 56 :: J 57 :: J 58 :: J 59 :: J 60 :: J 61 :: J 62 :: J 63 :: J 64 :: J 65 :: J 66 :: J 67 :: J 68 :: J 69 :: J 70 :: J 71 :: J 72 :: J 73 :: J 74 :: J 75 :: J 76 :: J 77 :: J 78 :: J 79 :: J 80 :: J 81 :: J 82 :: J 83 :: J 84 :: J 85 :: J 86 :: J 87 :: J 88 :: J 89 :: J 90 :: J 91 :: J 92 :: J 93 :: J 94 :: J 95 :: J 96 :: J 97 :: J 98 :: J 99 :: J 100 :: J 101 :: J 102 :: J 103 :: J 104 :: J 105 :: J 106 :: J 107 :: J 108 :: J 109 :: J 110 :: J 111 :: J 112 :: J 113 :: J 114 :: J 115 :: J 116 :: J 117 :: J 118 :: J 119 :: J 120 :: J 121 :: J 122 :: J 123 :: J 124 :: J 125 :: J 126 :: J 127 :: J 128 :: J 129 :: J 130 :: J 131 :: J 132 :: J 133 :: [] from by kernel_rfl] at hJ; replace k2 := Option.some.inj ((congrArg (·[2]?) hJ).symm.trans k2); replace k7 := Option.some.inj ((congrArg (·[7]?) hJ).symm.trans k7); replace k8 := Option.some.inj ((congrArg (·[8]?) hJ).symm.trans k8); replace k9 := Option.some.inj ((congrArg (·[9]?) hJ).symm.trans k9); replace k11 := Option.some.inj ((congrArg (·[11]?) hJ).symm.trans k11); replace k14 := Option.some.inj ((congrArg (·[14]?) hJ).symm.trans k14); replace k15 := Option.some.inj ((congrArg (·[15]?) hJ).symm.trans k15); rw [k2, k7, k8, k9, k11, k14, k15] at hJ; dsimp only at hJ hT; subst hJ; replace hT := hT.symm; subst hT; clear hL k2 k7 k8 k9 k11 k14 k15
  clear hcs hrs hof hgr hrg hsi hs1 hle hs2
  refine c_loop (fun m s => ∃ t : Nat, (t ≤ cost.length ∧ m = cost.length - t) ∧ (s.env.length = 134 ∧ s.sto = sto ++ js ∧ s.env[2]? = some (.v (VI how)) ∧ s.env[7]? = some (.v (LI cost)) ∧ s.env[8]? = some (.v (LLI rows)) ∧ s.env[9]? = some (.v (LI g)) ∧ s.env[11]? = some (.v (LI best)) ∧ s.env[14]? = some (.v (VI (mostT rows t))) ∧ s.env[15]? = some (.v (VI t)))) (.refl _) ⟨0, ⟨by omega, rfl⟩, rfl, rfl, ?_, ?_, ?_, ?_, ?_, ?_, ?_⟩ ?_
  all_goals first | rfl | skip
  rintro m s ⟨t, ⟨h1, rfl⟩, hL, hT, k2, k7, k8, k9, k11, k14, k15⟩
  obtain ⟨env, st0⟩ := s; obtain ⟨J, hJ⟩ := listJ hL; rw [show (List.range 134).map J = J 0 :: J 1 :: J 2 :: J 3 :: J 4 :: J 5 :: J 6 :: J 7 :: J 8 :: J 9 :: J 10 :: J 11 :: J 12 :: J 13 :: J 14 :: J 15 :: J 16 :: J 17 :: J 18 :: J 19 :: J 20 :: J 21 :: J 22 :: J 23 :: J 24 :: J 25 :: J 26 :: J 27 :: J 28 :: J 29 :: J 30 :: J 31 :: J 32 :: J 33 :: J 34 :: J 35 :: J 36 :: J 37 :: J 38 :: J 39 :: J 40 :: J 41 :: J 42 :: J 43 :: J 44 :: J 45 :: J 46 :: J 47 :: J 48 :: J 49 :: J 50 :: J 51 :: J 52 :: J 53 :: J 54 :: J 55 :: J 56 :: J 57 :: J 58 :: J 59 :: J 60 :: J 61 :: J 62 :: J 63 :: J 64 :: J 65 :: J 66 :: J 67 :: J 68 :: J 69 :: J 70 :: J 71 :: J 72 :: J 73 :: J 74 :: J 75 :: J 76 :: J 77 :: J 78 :: J 79 :: J 80 :: J 81 :: J 82 :: J 83 :: J 84 :: J 85 :: J 86 :: J 87 :: J 88 :: J 89 :: J 90 :: J 91 :: J 92 :: J 93 :: J 94 :: J 95 :: J 96 :: J 97 :: J 98 :: J 99 :: J 100 :: J 101 :: J 102 :: J 103 :: J 104 :: J 105 :: J 106 :: J 107 :: J 108 :: J 109 :: J 110 :: J 111 :: J 112 :: J 113 :: J 114 :: J 115 :: J 116 :: J 117 :: J 118 :: J 119 :: J 120 :: J 121 :: J 122 :: J 123 :: J 124 :: J 125 :: J 126 :: J 127 :: J 128 :: J 129 :: J 130 :: J 131 :: J 132 :: J 133 :: [] from by kernel_rfl] at hJ; replace k2 := Option.some.inj ((congrArg (·[2]?) hJ).symm.trans k2); replace k7 := Option.some.inj ((congrArg (·[7]?) hJ).symm.trans k7); replace k8 := Option.some.inj ((congrArg (·[8]?) hJ).symm.trans k8); replace k9 := Option.some.inj ((congrArg (·[9]?) hJ).symm.trans k9); replace k11 := Option.some.inj ((congrArg (·[11]?) hJ).symm.trans k11); replace k14 := Option.some.inj ((congrArg (·[14]?) hJ).symm.trans k14); replace k15 := Option.some.inj ((congrArg (·[15]?) hJ).symm.trans k15); rw [k2, k7, k8, k9, k11, k14, k15] at hJ; dsimp only at hJ hT; subst hJ; replace hT := hT.symm; subst hT; clear hL k2 k7 k8 k9 k11 k14 k15
  have hmt := mostT_le rows t
  by_cases ht : t < cost.length
  · repeat' (first | (refine go ⟨?_⟩) | (fail) | ((first | (refine bsp ?_ ?_) | (refine csp ?_ ?_)); all_goals (intro hb; (fail_if_success (cases hb; done)); (try simp only [decide_eq_true_eq, decide_eq_false_iff_not, beq_iff_eq, bne_iff_ne, ne_eq, beq_eq_false_iff_ne, bne_eq_false_iff_eq, Bool.not_eq_true', Bool.not_eq_false', Bool.and_eq_true, Bool.or_eq_true, Decidable.not_not] at hb); (try simp only [go_sem]))))
    refine c_loop (fun m s => ∃ (i n : Nat), (i ≤ rows.length ∧ m = rows.length - i ∧ n = nT (rows.take i) t ∧ n ≤ i) ∧ (s.env.length = 134 ∧ s.sto = sto ++ js ∧ s.env[2]? = some (.v (VI how)) ∧ s.env[7]? = some (.v (LI cost)) ∧ s.env[8]? = some (.v (LLI rows)) ∧ s.env[9]? = some (.v (LI g)) ∧ s.env[11]? = some (.v (LI best)) ∧ s.env[14]? = some (.v (VI (mostT rows t))) ∧ s.env[15]? = some (.v (VI t)) ∧ s.env[16]? = some (.v (VI n)) ∧ s.env[17]? = some (.v (VI i)))) (.refl _) ⟨0, 0, ⟨by omega, rfl, rfl, by omega⟩, rfl, rfl, ?_, ?_, ?_, ?_, ?_, ?_, ?_, ?_, ?_⟩ ?_
    all_goals first | rfl | skip
    rintro m s ⟨i, n, ⟨g1, rfl, rfl, g2⟩, hL, hT, k2, k7, k8, k9, k11, k14, k15, k16, k17⟩
    obtain ⟨env, st0⟩ := s; obtain ⟨J, hJ⟩ := listJ hL; rw [show (List.range 134).map J = J 0 :: J 1 :: J 2 :: J 3 :: J 4 :: J 5 :: J 6 :: J 7 :: J 8 :: J 9 :: J 10 :: J 11 :: J 12 :: J 13 :: J 14 :: J 15 :: J 16 :: J 17 :: J 18 :: J 19 :: J 20 :: J 21 :: J 22 :: J 23 :: J 24 :: J 25 :: J 26 :: J 27 :: J 28 :: J 29 :: J 30 :: J 31 :: J 32 :: J 33 :: J 34 :: J 35 :: J 36 :: J 37 :: J 38 :: J 39 :: J 40 :: J 41 :: J 42 :: J 43 :: J 44 :: J 45 :: J 46 :: J 47 :: J 48 :: J 49 :: J 50 :: J 51 :: J 52 :: J 53 :: J 54 :: J 55 :: J 56 :: J 57 :: J 58 :: J 59 :: J 60 :: J 61 :: J 62 :: J 63 :: J 64 :: J 65 :: J 66 :: J 67 :: J 68 :: J 69 :: J 70 :: J 71 :: J 72 :: J 73 :: J 74 :: J 75 :: J 76 :: J 77 :: J 78 :: J 79 :: J 80 :: J 81 :: J 82 :: J 83 :: J 84 :: J 85 :: J 86 :: J 87 :: J 88 :: J 89 :: J 90 :: J 91 :: J 92 :: J 93 :: J 94 :: J 95 :: J 96 :: J 97 :: J 98 :: J 99 :: J 100 :: J 101 :: J 102 :: J 103 :: J 104 :: J 105 :: J 106 :: J 107 :: J 108 :: J 109 :: J 110 :: J 111 :: J 112 :: J 113 :: J 114 :: J 115 :: J 116 :: J 117 :: J 118 :: J 119 :: J 120 :: J 121 :: J 122 :: J 123 :: J 124 :: J 125 :: J 126 :: J 127 :: J 128 :: J 129 :: J 130 :: J 131 :: J 132 :: J 133 :: [] from by kernel_rfl] at hJ; replace k2 := Option.some.inj ((congrArg (·[2]?) hJ).symm.trans k2); replace k7 := Option.some.inj ((congrArg (·[7]?) hJ).symm.trans k7); replace k8 := Option.some.inj ((congrArg (·[8]?) hJ).symm.trans k8); replace k9 := Option.some.inj ((congrArg (·[9]?) hJ).symm.trans k9); replace k11 := Option.some.inj ((congrArg (·[11]?) hJ).symm.trans k11); replace k14 := Option.some.inj ((congrArg (·[14]?) hJ).symm.trans k14); replace k15 := Option.some.inj ((congrArg (·[15]?) hJ).symm.trans k15); replace k16 := Option.some.inj ((congrArg (·[16]?) hJ).symm.trans k16); replace k17 := Option.some.inj ((congrArg (·[17]?) hJ).symm.trans k17); rw [k2, k7, k8, k9, k11, k14, k15, k16, k17] at hJ; dsimp only at hJ hT; subst hJ; replace hT := hT.symm; subst hT; clear hL k2 k7 k8 k9 k11 k14 k15 k16 k17
    by_cases hi : i < rows.length
    · have hri := (show _ ∧ _ ∧ (∀ r ∈ rows, r.length ≤ 4) ∧ _ from hX).2.2.1 rows[i] (List.getElem_mem hi)
      have hlf := fun sto lo hlo => (refLeft_ev [rows[i]] [(t : Int)] (by simp) (fun r hr => by rw [List.mem_singleton.1 hr]; omega) (by simp) sto lo hlo).up0 (B := collB)
      have hnt := nT_take rows t i hi
      rw [left_one] at hlf
      by_cases hin : (t : Int) ∈ rows[i]
      · have hpos := List.length_pos_of_mem hin
        rw [if_neg (fun h => h.2 hin)] at hlf
        rw [if_pos hin] at hnt
        clear hin
        repeat' (first | (refine go ⟨?_⟩) | (((refine call ?_); (refine ⟨_, hlf _ _ (by first | omega | (simp; done) | (simp; omega)), ?_⟩); (try simp only [go_sem]))) | ((first | (refine bsp ?_ ?_) | (refine csp ?_ ?_)); all_goals (intro hb; (fail_if_success (cases hb; done)); (try simp only [decide_eq_true_eq, decide_eq_false_iff_not, beq_iff_eq, bne_iff_ne, ne_eq, beq_eq_false_iff_ne, bne_eq_false_iff_eq, Bool.not_eq_true', Bool.not_eq_false', Bool.and_eq_true, Bool.or_eq_true, Decidable.not_not] at hb); (try simp only [go_sem]))))
        refine ⟨_, _, ?_, .refl _, i + 1, _, ⟨by omega, rfl, hnt.symm, by omega⟩, rfl, rfl, ?_, ?_, ?_, ?_, ?_, ?_, ?_, ?_, ?_⟩
        · omega
        all_goals rfl
      · rw [if_neg hin] at hnt
        by_cases hpos : 0 < rows[i].length
        · rw [if_pos ⟨hpos, hin⟩] at hlf
          clear hin
          repeat' (first | (refine go ⟨?_⟩) | (((refine call ?_); (refine ⟨_, hlf _ _ (by first | omega | (simp; done) | (simp; omega)), ?_⟩); (try simp only [go_sem]))) | ((first | (refine bsp ?_ ?_) | (refine csp ?_ ?_)); all_goals (intro hb; (fail_if_success (cases hb; done)); (try simp only [decide_eq_true_eq, decide_eq_false_iff_not, beq_iff_eq, bne_iff_ne, ne_eq, beq_eq_false_iff_ne, bne_eq_false_iff_eq, Bool.not_eq_true', Bool.not_eq_false', Bool.and_eq_true, Bool.or_eq_true, Decidable.not_not] at hb); (try simp only [go_sem]))))
          refine ⟨_, _, ?_, .refl _, i + 1, _, ⟨by omega, rfl, hnt.symm, by omega⟩, rfl, rfl, ?_, ?_, ?_, ?_, ?_, ?_, ?_, ?_, ?_⟩
          · omega
          all_goals rfl
        · rw [if_neg (fun h => hpos h.1)] at hlf
          clear hin
          repeat' (first | (refine go ⟨?_⟩) | (((refine call ?_); (refine ⟨_, hlf _ _ (by first | omega | (simp; done) | (simp; omega)), ?_⟩); (try simp only [go_sem]))) | ((first | (refine bsp ?_ ?_) | (refine csp ?_ ?_)); all_goals (intro hb; (fail_if_success (cases hb; done)); (try simp only [decide_eq_true_eq, decide_eq_false_iff_not, beq_iff_eq, bne_iff_ne, ne_eq, beq_eq_false_iff_ne, bne_eq_false_iff_eq, Bool.not_eq_true', Bool.not_eq_false', Bool.and_eq_true, Bool.or_eq_true, Decidable.not_not] at hb); (try simp only [go_sem]))))
          refine ⟨_, _, ?_, .refl _, i + 1, _, ⟨by omega, rfl, hnt.symm, by omega⟩, rfl, rfl, ?_, ?_, ?_, ?_, ?_, ?_, ?_, ?_, ?_⟩
          · omega
          all_goals rfl
    · repeat' (first | (refine go ⟨?_⟩) | (fail) | ((first | (refine bsp ?_ ?_) | (refine csp ?_ ?_)); all_goals (intro hb; (fail_if_success (cases hb; done)); (try simp only [decide_eq_true_eq, decide_eq_false_iff_not, beq_iff_eq, bne_iff_ne, ne_eq, beq_eq_false_iff_ne, bne_eq_false_iff_eq, Bool.not_eq_true', Bool.not_eq_false', Bool.and_eq_true, Bool.or_eq_true, Decidable.not_not] at hb); (try simp only [go_sem]))))
      refine ⟨_, _, ?_, .refl _, t + 1, ⟨by omega, rfl⟩, rfl, rfl, ?_, ?_, ?_, ?_, ?_, ?_, ?_⟩
      · omega
      all_goals first | rfl | skip
      rw [mostT_succ, List.take_of_length_le (by omega : rows.length ≤ i)]
      have hmx : (if ((nT rows t : Nat) : Int) > ((mostT rows t : Nat) : Int) then ((nT rows t : Nat) : Int) else ((mostT rows t : Nat) : Int)) = ((max (mostT rows t) (nT rows t) : Nat) : Int) := by split <;> omega
      exact congrArg (fun x => some (D.v (VI x))) hmx
  · obtain rfl : t = cost.length := by omega
    obtain ⟨hp1, hp2, d2, hge⟩ := (show _ ∧ _ ∧ _ ∧ _ from hX)
    have hbd := fun sto lo hlo => (bad_ev rows cost how (by omega) (by omega) hh sto lo hlo).up0 (B := collB)
    obtain ⟨b1, b2, b3⟩ := badS_size rows cost how
    have hrl2 : ∀ r ∈ (badS rows cost how).1, r.length < 1000000 := fun r hr => by
      rcases b3 r hr with h | h
      · have := d2 r h; omega
      · omega
    have hofb := fun sto lo hlo => (lawOf_ev (badS rows cost how).1 (by omega) sto lo hlo).up0 (B := collB)
    have hgrb := fun sto lo hlo => (greedy_ev (badS rows cost how).1 (badS rows cost how).2 (by omega) hrl2 (by omega) sto lo hlo).up0 (B := collB)
    simp only [badS_poss, Bool.false_eq_true, if_false] at hgrb
    clear b3 hrl2 d2 hX
    generalize (badS rows cost how).1 = rb at *
    generalize (badS rows cost how).2 = cb at *
    generalize mostT rows cost.length = M at *
    repeat' (first | (refine go ⟨?_⟩) | (first | ((refine call ?_); (refine ⟨_, hbd _ _ (by first | omega | (simp; done) | (simp; omega)), ?_⟩); (try simp only [go_sem])) | ((refine call ?_); (refine ⟨_, hofb _ _ (by first | omega | (simp; done) | (simp; omega)), ?_⟩); (try simp only [go_sem])) | ((refine call ?_); (refine ⟨_, hgrb _ _ (by first | omega | (simp; done) | (simp; omega)), ?_⟩); (try simp only [go_sem])) | ((refine call ?_); (refine ⟨_, hp1 _ _ (by first | omega | (simp; done) | (simp; omega)), ?_⟩); (try simp only [go_sem])) | ((refine call ?_); (refine ⟨_, hp2 _ _ (by first | omega | (simp; done) | (simp; omega)), ?_⟩); (try simp only [go_sem])) | ((refine call ?_); (refine ⟨_, lives_ev _ _ (by first | omega | (simp; done) | (simp; omega)), ?_⟩); (try simp only [go_sem]))) | ((first | (refine bsp ?_ ?_) | (refine csp ?_ ?_)); all_goals (intro hb; (fail_if_success (cases hb; done)); (try simp only [decide_eq_true_eq, decide_eq_false_iff_not, beq_iff_eq, bne_iff_ne, ne_eq, beq_eq_false_iff_ne, bne_eq_false_iff_eq, Bool.not_eq_true', Bool.not_eq_false', Bool.and_eq_true, Bool.or_eq_true, Decidable.not_not] at hb); (try simp only [go_sem]))))
    refine ⟨by first | exact .inr rfl | exact .inl rfl, .inl ⟨[], _, (by dsimp only [Tryd.f5]; exact sv), ?_, by simp⟩⟩
    rfl
end Go.Proofs.YtgkhcjdpdgfdbaaDoor
namespace Go.Proofs.YtgkhcjdpdgfdbaaDoor.suiteGreedy
open Go Go.ChangeShapes Go.WideShapes Go.ChangeAt Go.RowKit

theorem door_met (os : Os) (args : Array Value) : laidMetH Tryd.prog Rows.suiteGreedyRow.laid ((World.doorLaid Tryd.prog 600 os).forCall (fun _ _ => 0) ⟨#[], args, []⟩).memory :=
  laidMetH_of_parts3 (fuel := 8) (laidMet_of_run' 8 (by kernel_rfl) (by kernel_rfl)) (by kernel_rfl) (by kernel_rfl)

set_option maxRecDepth 100000 in
theorem lifted (os : Os) (started : os.Started) (H : Type) (enc : TypeId × Value → H) :
    ReturnsInHanded {} Tryd.checked os 5 .any (fun w args => (Rows.suiteGreedySpec.pre enc Tryd.prog Tryd.f5 [] false w args ∧ laidMetH Tryd.prog Rows.suiteGreedyRow.laid w) ∧ sizedMet enc Tryd.prog Tryd.f5 (OpenSpec.ofChange Rows.suiteGreedySpec) false w args)
      (Rows.suiteGreedySpec.post enc Tryd.prog Tryd.f5 false true false false) := by
  refine returnsInHanded_of_change_and (C := Tryd.checked) (X := fun w _ => laidMetH Tryd.prog Rows.suiteGreedyRow.laid w) (fun _ _ _ hh h => h.of_heap hh) own started (by kernel_rfl) Tryd.func5
    (ChangeSpec.witness_shaped (enc := enc) (C := Tryd.checked) (os := os) (X := fun w _ => laidMetH Tryd.prog Rows.suiteGreedyRow.laid w) false (World.doorLaid Tryd.prog 600 os) #[.slice none 0 0, .slice none 0 0, .int .i64 0] 8 rfl (World.shaped_of_RefB (by kernel_rfl) (by kernel_rfl)) (by kernel_rfl) (by kernel_rfl) (by kernel_rfl) (door_met os _)) ?_
  intro W base args ds gs before hval0 hW _ _ hL _
  have hval : ∀ (j : Nat) t v, Tryd.f5.params[j]? = some t → args[j]? = some v → Value.okWide Tryd.prog W .any base t v := hval0
  have hW' := hW
  obtain ⟨p, q, hA0, hV, rfl, hfz, hnd⟩ := hW
  have hA : DataW.TrodAll enc Tryd.prog W 0 (fun _ => true) true Tryd.f5.params.toList args.toList ds p := hA0
  rw [Tryd.params5] at hA hval
  obtain ⟨v0, vs0, d0, ds0, p0, q0, hargs, rfl, rfl, hd0, r0⟩ := trodAll_cons hA
  obtain ⟨v1, vs1, d1, ds1, p1, q1, rfl, rfl, rfl, hd1, r1⟩ := trodAll_cons r0
  obtain ⟨v2, vs2, d2, ds2, p2, q2, rfl, rfl, rfl, hd2, r2⟩ := trodAll_cons r1
  obtain ⟨rfl, rfl, rfl⟩ := trodAll_nil r2
  obtain rfl : args = #[v0, v1, v2] := by cases args; simp_all
  obtain ⟨l0, k0⟩ := (opens_slice Tryd.underlying22 (by kernel_rfl) (opens_int (k := .i64) Tryd.underlying3)).arg Tryd.underlying22 (hval 0 22 v0 rfl rfl) hd0
  obtain ⟨h0, q0⟩ := k0.ints
  have n0 := rd_len h0
  obtain ⟨l1, k1⟩ := (opens_slice Tryd.underlying22 (by kernel_rfl) (opens_int (k := .i64) Tryd.underlying3)).arg Tryd.underlying22 (hval 1 22 v1 rfl rfl) hd1
  obtain ⟨h1, q1⟩ := k1.ints
  have n1 := rd_len h1
  obtain ⟨a2, rfl, rfl, rfl, wa2⟩ := open_int Tryd.underlying3 (hval 2 3 v2 rfl rfl) hd2
  have b2 := i64_wf wa2
  refine (law_calls (vals := [v0, v1, .int .i64 a2]) (xs := [LI l0, LI l1, VI a2]) collB_ok (suiteGreedy_ev l0 l1 a2 n0 q0 n1 q1 b2 [] 0 (Nat.le_refl _)) (glob_of_laid hL) (Pw.cons (rep_ints h0) (Pw.cons (rep_ints h1) (Pw.cons (rep_int a2) (Pw.nil))))).mono fun e W' ⟨he, hb⟩ => ?_
  subst he
  exact ⟨_, rfl, law_post hW' rfl laidOut (by kernel_rfl) rfl Tryd.underlying4 (fun ds h => match ds, h with | [_, _, _], _ => rfl) hb⟩

theorem said : Rows.SuiteGreedySaid :=
  OpenClaim.holds_of_wide 5 Tryd.f5 rfl rfl rfl rfl rfl rfl rfl ⟨rfl, rfl, rfl, rfl, rfl⟩ rfl rfl rfl rfl rfl (by kernel_rfl) Tryd.func5 (by kernel_rfl)
    (of_decide_eq_true (by kernel_rfl)) (by unfold Func.isWrapper; first | (rw [if_pos (by decide +kernel)]; kernel_rfl) | (rw [if_neg (by decide +kernel)]; exact ⟨rfl, rfl⟩))
    (fun os started H enc _ => lifted os started H enc)

theorem plain (f : FuncId) (fn : Func) (hf : Tryd.pinned.checked.prog.funcNamed "scoria/scorialaw37.SuiteGreedy" = some f) (hfn : Tryd.pinned.checked.prog.funcs[f]? = some fn) :
    false = Tryd.pinned.checked.prog.looks [] ∧ ∀ (j : Nat) t, fn.params[j]? = some t → Tryd.pinned.checked.prog.wantsStandIn t = false := by
  obtain rfl : f = 5 := Option.some.inj ((show Tryd.prog.funcNamed "scoria/scorialaw37.SuiteGreedy" = some 5 by kernel_rfl).symm.trans hf) |>.symm
  obtain rfl : fn = Tryd.f5 := (Option.some.inj (Tryd.func5.symm.trans hfn)).symm
  refine ⟨by kernel_rfl, fun j t ht => ?_⟩
  have hall : (Tryd.f5.params.toList.all fun t => !(Tryd.prog.wantsStandIn t)) = true := by kernel_rfl
  have h := List.all_eq_true.1 hall t (Array.mem_toList_iff.2 (Array.mem_of_getElem? ht))
  exact (Bool.not_eq_true' _).mp h

/-- THE CARD. -/
theorem suiteGreedy_holds : Rows.SuiteGreedyCardSaid :=
  Claim7.holds_tied_plain_at .later [] _ _ _ _ said (fun _ h => by cases h) (by kernel_rfl) (fun _ h => by cases h) suiteGreedy_row_tie rfl ⟨rfl, rfl⟩ (by kernel_rfl) rfl plain (by kernel_rfl)
#print axioms suiteGreedy_holds
end Go.Proofs.YtgkhcjdpdgfdbaaDoor.suiteGreedy
