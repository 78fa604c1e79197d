/-
  Terms: the law TermSimple. No condition of its own. TermSimple of layer 20: whatever the input, it returns true. The card ties word's table of operations to the program's text.
-/
import Derived.Test.YtomameefmobnlaaDoorS18
import Derived.Test.YtomameefmobnlaaDoorS20
import Derived.Test.YtomameefmobnlaaDoorS7
import Derived.Test.YtomameefmobnlaaDoorCards
import Derived.Test.YtomameefmobnlaaDoorTie
import Derived.Test.YtomameefmobnlaaDoorS2
import Derived.SevenTiedAt
namespace Go.Proofs.YtomameefmobnlaaDoor
open Go Go.RowKit

attribute [local irreducible] EvOps EvC
attribute [local go_sem] List.getElem?_toArray getS List.flatten_cons List.flatten_nil List.contains_nil List.append_nil
set_option linter.unusedSimpArgs false
set_option linter.unusedVariables false
set_option maxRecDepth 100000
set_option maxHeartbeats 4000000
theorem refVars_sub {t s : Tr} (h : ∀ p ∈ varP s, p ∈ varP t) : ∀ n ∈ refVars s, n ∈ refVars t := by
  intro n hn
  unfold refVars at hn ⊢
  rw [mem_upTo] at hn ⊢
  rw [decide_eq_true_eq] at hn ⊢
  obtain ⟨ab, p, hp, e⟩ := hn
  exact ⟨ab, p, h p hp, e⟩
theorem refVars_nil {t : Tr} (hv : VarOK t) (h : (refVars t).length = 0) : varP t = [] := by
  cases hc : varP t with
  | nil => rfl
  | cons p l =>
    have hp : p ∈ varP t := by rw [hc]; simp
    have := hv p hp
    have hm : p.1 ∈ refVars t := by
      unfold refVars
      rw [mem_upTo, decide_eq_true_eq]
      exact ⟨⟨by omega, by omega⟩, p, hp, rfl⟩
    rw [List.eq_nil_of_length_eq_zero h] at hm
    cases hm
theorem termSimple_ev (l : List Int) (kind from' : Int) (hl : NumL l) (hk : Big kind) (hf : Big from') (sto : Sto) (lo : Nat) (hlo : lo ≤ sto.length) : CallEv Tryd.prog tab sortB 8 [.v (LI l), .v (VI kind), .v (VI from')] sto lo (.v (.bool true)) sto := by
  have hlv := fun sto lo hlo => lives_ev sto lo hlo
  have ht := fun sto lo hlo => (term_ev l kind hl hk sto lo hlo).up0 (B := sortB)
  have har := fun sto lo hlo => (around_ev from' 1024 hf (by omega) (by omega) sto lo hlo).up0 (B := sortB)
  have harb := aroundS_bound (n := from') (most := 1024) (by omega)
  obtain ⟨hw, hsz⟩ := term_ok l kind
  have hok := term_vars l kind
  generalize aroundS from' 1024 = fr at *
  generalize termS l kind = t at *
  generalize aroundS kind 2 = kd at *
  obtain ⟨s, hS, hcon, hsi⟩ := simp_ev hw (by omega)
  have hsi' := fun sto lo hlo => (hsi sto lo hlo).up0 (B := sortB)
  have hsok : VarOK s := fun p hp => hok p (hS.vars p hp)
  have hz := hS.sz
  have hzp := tsz_pos s
  have hva := fun sto lo hlo => (rValid_ev s (by omega) sto lo hlo).up0 (B := sortB)
  rw [valid_term hS.wt hsok] at hva
  have hkk := hS.wt.kind
  rw [show max kd 0 = kd from by omega, decide_eq_true (show 0 ≤ kd by omega)] at hva
  have hty := fun sto lo hlo => (type_ev (tsz t) t sto lo (Nat.le_refl _) (by omega) hlo).up0 (B := sortB)
  rw [hw.type] at hty
  have hz1 := fun sto lo hlo => (tSize_ev (tsz s) s sto lo (Nat.le_refl _) (by omega) hlo).up0 (B := sortB)
  have hz2 := fun sto lo hlo => (size_ev (tsz t) t sto lo (Nat.le_refl _) (by omega) hlo).up0 (B := sortB)
  have hv1 := fun sto lo hlo => (rVars_ev t (by omega) sto lo hlo).up0 (B := sortB)
  have hv2 := fun sto lo hlo => (rVars_ev s (by omega) sto lo hlo).up0 (B := sortB)
  have hsub := refVars_sub hS.vars
  have hc0 := fun h => hcon (refVars_nil hok h)
  have hl1 : (refVars t).length ≤ 64 := by unfold refVars; exact upTo_len _ _
  have hl2 : (refVars s).length ≤ 64 := by unfold refVars; exact upTo_len _ _
  have hvals : ∀ v : Int, Big v → (∀ x ∈ valuesS v, Big x) ∧ (valuesS v).length < 9223372036854775808 := fun v hv => ⟨fun y hy => big_smal (by have := valuesS_bound _ y hy; omega), by rw [valuesS_length]; decide⟩
  have hE : ∀ v : Int, Big v → (∀ sto lo, lo ≤ sto.length → CallEv Tryd.prog tab sortB 20 [.v (TV t), .v (LI (valuesS v))] sto lo (.v (VI (evalS (valuesS v) t))) sto) ∧ (∀ sto lo, lo ≤ sto.length → CallEv Tryd.prog tab sortB 20 [.v (TV s), .v (LI (valuesS v))] sto lo (.v (VI (evalS (valuesS v) t))) sto) ∧ (∀ sto lo, lo ≤ sto.length → CallEv Tryd.prog tab sortB 21 [.v (TV s), .v (LI (valuesS v))] sto lo (.v (VI (evalS (valuesS v) t))) sto) := by
    intro v hv
    obtain ⟨h1, h2⟩ := hvals v hv
    refine ⟨fun sto lo hlo => (eval_ev _ h1 h2 hw sto lo hlo).up0, fun sto lo hlo => ?_, fun sto lo hlo => ?_⟩
    · rw [← hS.ev]; exact (eval_ev _ h1 h2 hS.wt sto lo hlo).up0
    · rw [← hS.ev]; exact (rEval_ev _ h1 h2 hS.wt sto lo hlo).up0
  have hvv := fun v hv sto lo hlo => (values_ev v hv sto lo hlo).up0 (B := sortB)
  clear hsi hS hw hok hsok hcon hvals hl hk hkk hf
  generalize refVars t = vs at *
  generalize refVars s = os at *
  generalize tsz t = z at *
  generalize tsz s = zs at *
  generalize hisc : isC s = isc at *
  generalize hev : (fun v : Int => evalS (valuesS v) t) = ev at *
  have hE' : ∀ v : Int, Big v → (∀ sto lo, lo ≤ sto.length → CallEv Tryd.prog tab sortB 20 [.v (TV t), .v (LI (valuesS v))] sto lo (.v (VI (ev v))) sto) ∧ (∀ sto lo, lo ≤ sto.length → CallEv Tryd.prog tab sortB 20 [.v (TV s), .v (LI (valuesS v))] sto lo (.v (VI (ev v))) sto) ∧ (∀ sto lo, lo ≤ sto.length → CallEv Tryd.prog tab sortB 21 [.v (TV s), .v (LI (valuesS v))] sto lo (.v (VI (ev v))) sto) := by
    subst hev; exact hE
  clear hE hev
  obtain ⟨k0, n0, m0, l0⟩ := t
  obtain ⟨k1, n1, m1, l1⟩ := s
  have hc1 : vs.length = 0 → k1 ≠ 4 → k1 = 5 := fun h hn => by
    have := hc0 h
    rw [← hisc] at this
    simp only [isC, Tr.k, Bool.or_eq_true, beq_iff_eq] at this
    omega
  clear hc0 hisc
  refine CallEv.intro ⟨_, _, [], Tryd.func8, rfl, by decide, ?_⟩; simp only [go_sem, Tryd.ntmps8]
  repeat' (first | (refine go ⟨?_⟩) | (first | ((refine call ?_); (refine ⟨_, ht _ _ (by first | omega | (simp; done) | (simp; omega)), ?_⟩); (try simp only [go_sem])) | ((refine call ?_); (refine ⟨_, hsi' _ _ (by first | omega | (simp; done) | (simp; omega)), ?_⟩); (try simp only [go_sem])) | ((refine call ?_); (refine ⟨_, hva _ _ (by first | omega | (simp; done) | (simp; omega)), ?_⟩); (try simp only [go_sem])) | ((refine call ?_); (refine ⟨_, hty _ _ (by first | omega | (simp; done) | (simp; omega)), ?_⟩); (try simp only [go_sem])) | ((refine call ?_); (refine ⟨_, hz1 _ _ (by first | omega | (simp; done) | (simp; omega)), ?_⟩); (try simp only [go_sem])) | ((refine call ?_); (refine ⟨_, hz2 _ _ (by first | omega | (simp; done) | (simp; omega)), ?_⟩); (try simp only [go_sem])) | ((refine call ?_); (refine ⟨_, hv1 _ _ (by first | omega | (simp; done) | (simp; omega)), ?_⟩); (try simp only [go_sem])) | ((refine call ?_); (refine ⟨_, hv2 _ _ (by first | omega | (simp; done) | (simp; omega)), ?_⟩); (try simp only [go_sem]))) | ((first | (refine bsp ?_ ?_) | (refine csp ?_ ?_)); all_goals (intro hb; (fail_if_success (cases hb; done)); (try simp only [decide_eq_true_eq, decide_eq_false_iff_not, beq_iff_eq, bne_iff_ne, ne_eq, beq_eq_false_iff_ne, bne_eq_false_iff_eq, Bool.not_eq_true', Bool.not_eq_false', Bool.and_eq_true, Bool.or_eq_true, Decidable.not_not] at hb); (try simp only [go_sem]))))
  clear ht hsi' hva hty hz1 hz2 hv1 hv2
  refine c_loop (fun mm s => ∃ (i : Nat) (js : List Ent), (i ≤ os.length ∧ mm = os.length - i) ∧ (s.env.length = 118 ∧ s.sto = sto ++ .cells [.v (VI k0), .v (VI n0), .v (VI m0), .v (.sl l0.length (cellsTs l0))] :: .cells [.v (VI k1), .v (VI n1), .v (VI m1), .v (.sl l1.length (cellsTs l1))] :: js ∧ s.env[2]? = some (.v (VI from')) ∧ s.env[6]? = some (.v (.bool false)) ∧ s.env[7]? = some (.ptr sto.length 0) ∧ s.env[8]? = some (.ptr (sto.length + 1) 0) ∧ s.env[11]? = some (.v (LI vs)) ∧ s.env[12]? = some (.v (LI os)) ∧ s.env[13]? = some (.v (VI i)))) (.refl _) ⟨0, [], ⟨by omega, rfl⟩, rfl, rfl, ?_, ?_, ?_, ?_, ?_, ?_, ?_⟩ ?_
  all_goals first | rfl | skip
  rintro mm s ⟨i, js, ⟨h1, rfl⟩, hL, hT, k2, k6, k7, k8, k11, k12, k13⟩
  obtain ⟨env, st0⟩ := s; obtain ⟨J, hJ⟩ := listJ hL; rw [show (List.range 118).map J = J 0 :: J 1 :: J 2 :: J 3 :: J 4 :: J 5 :: J 6 :: J 7 :: J 8 :: J 9 :: J 10 :: J 11 :: J 12 :: J 13 :: J 14 :: J 15 :: J 16 :: J 17 :: J 18 :: J 19 :: J 20 :: J 21 :: J 22 :: J 23 :: J 24 :: J 25 :: J 26 :: J 27 :: J 28 :: J 29 :: J 30 :: J 31 :: J 32 :: J 33 :: J 34 :: J 35 :: J 36 :: J 37 :: J 38 :: J 39 :: J 40 :: J 41 :: J 42 :: J 43 :: J 44 :: J 45 :: J 46 :: J 47 :: J 48 :: J 49 :: J 50 :: J 51 :: J 52 :: J 53 :: J 54 :: J 55 :: J 56 :: J 57 :: J 58 :: J 59 :: J 60 :: J 61 :: J 62 :: J 63 :: J 64 :: J 65 :: J 66 :: J 67 :: J 68 :: J 69 :: J 70 :: J 71 :: J 72 :: J 73 :: J 74 :: J 75 :: J 76 :: J 77 :: J 78 :: J 79 :: J 80 :: J 81 :: J 82 :: J 83 :: J 84 :: J 85 :: J 86 :: J 87 :: J 88 :: J 89 :: J 90 :: J 91 :: J 92 :: J 93 :: J 94 :: J 95 :: J 96 :: J 97 :: J 98 :: J 99 :: J 100 :: J 101 :: J 102 :: J 103 :: J 104 :: J 105 :: J 106 :: J 107 :: J 108 :: J 109 :: J 110 :: J 111 :: J 112 :: J 113 :: J 114 :: J 115 :: J 116 :: J 117 :: [] from by kernel_rfl] at hJ; replace k2 := Option.some.inj ((congrArg (·[2]?) hJ).symm.trans k2); replace k6 := Option.some.inj ((congrArg (·[6]?) hJ).symm.trans k6); replace k7 := Option.some.inj ((congrArg (·[7]?) hJ).symm.trans k7); replace k8 := Option.some.inj ((congrArg (·[8]?) hJ).symm.trans k8); replace k11 := Option.some.inj ((congrArg (·[11]?) hJ).symm.trans k11); replace k12 := Option.some.inj ((congrArg (·[12]?) hJ).symm.trans k12); replace k13 := Option.some.inj ((congrArg (·[13]?) hJ).symm.trans k13); rw [k2, k6, k7, k8, k11, k12, k13] at hJ; dsimp only at hJ hT; subst hJ; replace hT := hT.symm; subst hT; clear hL k2 k6 k7 k8 k11 k12 k13
  by_cases hi : i < os.length
  · have hmem := hsub os[i] (List.getElem_mem hi)
    clear hsub hvv hE' hc1 hlv har
    repeat' (first | (refine go ⟨?_⟩) | (fail) | ((first | (refine bsp ?_ ?_) | (refine csp ?_ ?_)); all_goals (intro hb; (fail_if_success (cases hb; done)); (try simp only [decide_eq_true_eq, decide_eq_false_iff_not, beq_iff_eq, bne_iff_ne, ne_eq, beq_eq_false_iff_ne, bne_eq_false_iff_eq, Bool.not_eq_true', Bool.not_eq_false', Bool.and_eq_true, Bool.or_eq_true, Decidable.not_not] at hb); (try simp only [go_sem]))))
    refine c_loop (fun mm s => ∃ (j : Nat) (b : Bool) (js : List Ent), (j ≤ vs.length ∧ mm = vs.length - j ∧ b = decide (os[i] ∈ vs.take j)) ∧ (s.env.length = 118 ∧ s.sto = sto ++ .cells [.v (VI k0), .v (VI n0), .v (VI m0), .v (.sl l0.length (cellsTs l0))] :: .cells [.v (VI k1), .v (VI n1), .v (VI m1), .v (.sl l1.length (cellsTs l1))] :: js ∧ s.env[2]? = some (.v (VI from')) ∧ s.env[6]? = some (.v (.bool false)) ∧ s.env[7]? = some (.ptr sto.length 0) ∧ s.env[8]? = some (.ptr (sto.length + 1) 0) ∧ s.env[11]? = some (.v (LI vs)) ∧ s.env[12]? = some (.v (LI os)) ∧ s.env[13]? = some (.v (VI i)) ∧ s.env[14]? = some (.v (.bool b)) ∧ s.env[15]? = some (.v (VI j)))) (.refl _) ⟨0, false, _, ⟨by omega, rfl, by simp⟩, rfl, rfl, ?_, ?_, ?_, ?_, ?_, ?_, ?_, ?_, ?_⟩ ?_
    all_goals first | rfl | skip
    rintro mm s ⟨j, b, js, ⟨h2, rfl, h3⟩, hL, hT, k2, k6, k7, k8, k11, k12, k13, k14, k15⟩
    obtain ⟨env, st0⟩ := s; obtain ⟨J, hJ⟩ := listJ hL; rw [show (List.range 118).map J = J 0 :: J 1 :: J 2 :: J 3 :: J 4 :: J 5 :: J 6 :: J 7 :: J 8 :: J 9 :: J 10 :: J 11 :: J 12 :: J 13 :: J 14 :: J 15 :: J 16 :: J 17 :: J 18 :: J 19 :: J 20 :: J 21 :: J 22 :: J 23 :: J 24 :: J 25 :: J 26 :: J 27 :: J 28 :: J 29 :: J 30 :: J 31 :: J 32 :: J 33 :: J 34 :: J 35 :: J 36 :: J 37 :: J 38 :: J 39 :: J 40 :: J 41 :: J 42 :: J 43 :: J 44 :: J 45 :: J 46 :: J 47 :: J 48 :: J 49 :: J 50 :: J 51 :: J 52 :: J 53 :: J 54 :: J 55 :: J 56 :: J 57 :: J 58 :: J 59 :: J 60 :: J 61 :: J 62 :: J 63 :: J 64 :: J 65 :: J 66 :: J 67 :: J 68 :: J 69 :: J 70 :: J 71 :: J 72 :: J 73 :: J 74 :: J 75 :: J 76 :: J 77 :: J 78 :: J 79 :: J 80 :: J 81 :: J 82 :: J 83 :: J 84 :: J 85 :: J 86 :: J 87 :: J 88 :: J 89 :: J 90 :: J 91 :: J 92 :: J 93 :: J 94 :: J 95 :: J 96 :: J 97 :: J 98 :: J 99 :: J 100 :: J 101 :: J 102 :: J 103 :: J 104 :: J 105 :: J 106 :: J 107 :: J 108 :: J 109 :: J 110 :: J 111 :: J 112 :: J 113 :: J 114 :: J 115 :: J 116 :: J 117 :: [] from by kernel_rfl] at hJ; replace k2 := Option.some.inj ((congrArg (·[2]?) hJ).symm.trans k2); replace k6 := Option.some.inj ((congrArg (·[6]?) hJ).symm.trans k6); replace k7 := Option.some.inj ((congrArg (·[7]?) hJ).symm.trans k7); replace k8 := Option.some.inj ((congrArg (·[8]?) hJ).symm.trans k8); replace k11 := Option.some.inj ((congrArg (·[11]?) hJ).symm.trans k11); replace k12 := Option.some.inj ((congrArg (·[12]?) hJ).symm.trans k12); replace k13 := Option.some.inj ((congrArg (·[13]?) hJ).symm.trans k13); replace k14 := Option.some.inj ((congrArg (·[14]?) hJ).symm.trans k14); replace k15 := Option.some.inj ((congrArg (·[15]?) hJ).symm.trans k15); rw [k2, k6, k7, k8, k11, k12, k13, k14, k15] at hJ; dsimp only at hJ hT; subst hJ; replace hT := hT.symm; subst hT; clear hL k2 k6 k7 k8 k11 k12 k13 k14 k15
    by_cases hj : j < vs.length
    · have hnx : ∀ c : Bool, c = (b || decide (vs[j] = os[i])) → c = decide (os[i] ∈ vs.take (j + 1)) := fun c hc => by
        rw [hc, h3, List.take_succ_eq_append_getElem hj, Bool.eq_iff_iff]
        simp only [List.mem_append, List.mem_singleton, Bool.or_eq_true, decide_eq_true_eq]
        exact or_congr Iff.rfl ⟨Eq.symm, Eq.symm⟩
      clear hmem h3
      cases b with
      | true =>
        have hnx' := hnx true rfl
        clear hnx
        repeat' (first | (refine go ⟨?_⟩) | (fail) | ((first | (refine bsp ?_ ?_) | (refine csp ?_ ?_)); all_goals (intro hb; (fail_if_success (cases hb; done)); (try simp only [decide_eq_true_eq, decide_eq_false_iff_not, beq_iff_eq, bne_iff_ne, ne_eq, beq_eq_false_iff_ne, bne_eq_false_iff_eq, Bool.not_eq_true', Bool.not_eq_false', Bool.and_eq_true, Bool.or_eq_true, Decidable.not_not] at hb); (try simp only [go_sem]))))
        refine ⟨_, _, ?_, .refl _, j + 1, true, _, ⟨by omega, rfl, hnx'⟩, rfl, rfl, ?_, ?_, ?_, ?_, ?_, ?_, ?_, ?_, ?_⟩
        · omega
        all_goals rfl
      | false =>
        by_cases he : vs[j] = os[i]
        · have hnx' := hnx true (by simp [he])
          clear hnx
          repeat' (first | (refine go ⟨?_⟩) | (fail) | ((first | (refine bsp ?_ ?_) | (refine csp ?_ ?_)); all_goals (intro hb; (fail_if_success (cases hb; done)); (try simp only [decide_eq_true_eq, decide_eq_false_iff_not, beq_iff_eq, bne_iff_ne, ne_eq, beq_eq_false_iff_ne, bne_eq_false_iff_eq, Bool.not_eq_true', Bool.not_eq_false', Bool.and_eq_true, Bool.or_eq_true, Decidable.not_not] at hb); (try simp only [go_sem]))))
          refine ⟨_, _, ?_, .refl _, j + 1, true, _, ⟨by omega, rfl, hnx'⟩, rfl, rfl, ?_, ?_, ?_, ?_, ?_, ?_, ?_, ?_, ?_⟩
          · omega
          all_goals first | rfl | (simp only [he]; rfl) | (simp only [he, decide_true]; rfl) | (simp only [he, decide_false]; rfl)
        · have hnx' := hnx false (by simp [he])
          clear hnx
          repeat' (first | (refine go ⟨?_⟩) | (fail) | ((first | (refine bsp ?_ ?_) | (refine csp ?_ ?_)); all_goals (intro hb; (fail_if_success (cases hb; done)); (try simp only [decide_eq_true_eq, decide_eq_false_iff_not, beq_iff_eq, bne_iff_ne, ne_eq, beq_eq_false_iff_ne, bne_eq_false_iff_eq, Bool.not_eq_true', Bool.not_eq_false', Bool.and_eq_true, Bool.or_eq_true, Decidable.not_not] at hb); (try simp only [go_sem]))))
          refine ⟨_, _, ?_, .refl _, j + 1, false, _, ⟨by omega, rfl, hnx'⟩, rfl, rfl, ?_, ?_, ?_, ?_, ?_, ?_, ?_, ?_, ?_⟩
          · omega
          all_goals first | rfl | (simp only [he]; rfl) | (simp only [he, decide_true]; rfl) | (simp only [he, decide_false]; rfl)
    · rw [List.take_of_length_le (by omega), decide_eq_true hmem] at h3
      subst h3
      clear hmem
      repeat' (first | (refine go ⟨?_⟩) | (fail) | ((first | (refine bsp ?_ ?_) | (refine csp ?_ ?_)); all_goals (intro hb; (fail_if_success (cases hb; done)); (try simp only [decide_eq_true_eq, decide_eq_false_iff_not, beq_iff_eq, bne_iff_ne, ne_eq, beq_eq_false_iff_ne, bne_eq_false_iff_eq, Bool.not_eq_true', Bool.not_eq_false', Bool.and_eq_true, Bool.or_eq_true, Decidable.not_not] at hb); (try simp only [go_sem]))))
      refine ⟨_, _, ?_, .refl _, i + 1, _, ⟨by omega, rfl⟩, rfl, rfl, ?_, ?_, ?_, ?_, ?_, ?_, ?_⟩
      · omega
      all_goals rfl
  · clear hsub
    repeat' (first | (refine go ⟨?_⟩) | (fail) | ((first | (refine bsp ?_ ?_) | (refine csp ?_ ?_)); all_goals (intro hb; (fail_if_success (cases hb; done)); (try simp only [decide_eq_true_eq, decide_eq_false_iff_not, beq_iff_eq, bne_iff_ne, ne_eq, beq_eq_false_iff_ne, bne_eq_false_iff_eq, Bool.not_eq_true', Bool.not_eq_false', Bool.and_eq_true, Bool.or_eq_true, Decidable.not_not] at hb); (try simp only [go_sem]))))
    all_goals
      clear hc1 hl1 hl2 hz hzp hsz h1 hi
      refine c_loop (fun mm s => ∃ (i : Nat) (js : List Ent), (i ≤ 128 ∧ mm = 128 - i) ∧ (s.env.length = 118 ∧ s.sto = sto ++ .cells [.v (VI k0), .v (VI n0), .v (VI m0), .v (.sl l0.length (cellsTs l0))] :: .cells [.v (VI k1), .v (VI n1), .v (VI m1), .v (.sl l1.length (cellsTs l1))] :: js ∧ s.env[2]? = some (.v (VI from')) ∧ s.env[6]? = some (.v (.bool false)) ∧ s.env[7]? = some (.ptr sto.length 0) ∧ s.env[8]? = some (.ptr (sto.length + 1) 0) ∧ s.env[16]? = some (.v (VI i)))) (.refl _) ⟨0, _, ⟨by omega, rfl⟩, rfl, rfl, ?_, ?_, ?_, ?_, ?_⟩ ?_
      all_goals first | rfl | skip
      rintro mm s ⟨i, js, ⟨h1, rfl⟩, hL, hT, k2, k6, k7, k8, k16⟩
      obtain ⟨env, st0⟩ := s; obtain ⟨J, hJ⟩ := listJ hL; rw [show (List.range 118).map J = J 0 :: J 1 :: J 2 :: J 3 :: J 4 :: J 5 :: J 6 :: J 7 :: J 8 :: J 9 :: J 10 :: J 11 :: J 12 :: J 13 :: J 14 :: J 15 :: J 16 :: J 17 :: J 18 :: J 19 :: J 20 :: J 21 :: J 22 :: J 23 :: J 24 :: J 25 :: J 26 :: J 27 :: J 28 :: J 29 :: J 30 :: J 31 :: J 32 :: J 33 :: J 34 :: J 35 :: J 36 :: J 37 :: J 38 :: J 39 :: J 40 :: J 41 :: J 42 :: J 43 :: J 44 :: J 45 :: J 46 :: J 47 :: J 48 :: J 49 :: J 50 :: J 51 :: J 52 :: J 53 :: J 54 :: J 55 :: J 56 :: J 57 :: J 58 :: J 59 :: J 60 :: J 61 :: J 62 :: J 63 :: J 64 :: J 65 :: J 66 :: J 67 :: J 68 :: J 69 :: J 70 :: J 71 :: J 72 :: J 73 :: J 74 :: J 75 :: J 76 :: J 77 :: J 78 :: J 79 :: J 80 :: J 81 :: J 82 :: J 83 :: J 84 :: J 85 :: J 86 :: J 87 :: J 88 :: J 89 :: J 90 :: J 91 :: J 92 :: J 93 :: J 94 :: J 95 :: J 96 :: J 97 :: J 98 :: J 99 :: J 100 :: J 101 :: J 102 :: J 103 :: J 104 :: J 105 :: J 106 :: J 107 :: J 108 :: J 109 :: J 110 :: J 111 :: J 112 :: J 113 :: J 114 :: J 115 :: J 116 :: J 117 :: [] from by kernel_rfl] at hJ; replace k2 := Option.some.inj ((congrArg (·[2]?) hJ).symm.trans k2); replace k6 := Option.some.inj ((congrArg (·[6]?) hJ).symm.trans k6); replace k7 := Option.some.inj ((congrArg (·[7]?) hJ).symm.trans k7); replace k8 := Option.some.inj ((congrArg (·[8]?) hJ).symm.trans k8); replace k16 := Option.some.inj ((congrArg (·[16]?) hJ).symm.trans k16); rw [k2, k6, k7, k8, k16] at hJ; dsimp only at hJ hT; subst hJ; replace hT := hT.symm; subst hT; clear hL k2 k6 k7 k8 k16
      by_cases hi : i < 128
      · obtain ⟨q1, q2, q3⟩ := hE' (fr + 8 * i) ⟨by omega, by omega⟩
        have q4 := hvv (fr + 8 * i) ⟨by omega, by omega⟩
        clear hE' hvv hlv
        generalize ev (fr + 8 * i) = v at *
        generalize valuesS (fr + 8 * i) = xs at *
        repeat' (first | (refine go ⟨?_⟩) | (first | ((refine call ?_); (refine ⟨_, har _ _ (by first | omega | (simp; done) | (simp; omega)), ?_⟩); (try simp only [go_sem])) | ((refine call ?_); (refine ⟨_, q1 _ _ (by first | omega | (simp; done) | (simp; omega)), ?_⟩); (try simp only [go_sem])) | ((refine call ?_); (refine ⟨_, q2 _ _ (by first | omega | (simp; done) | (simp; omega)), ?_⟩); (try simp only [go_sem])) | ((refine call ?_); (refine ⟨_, q3 _ _ (by first | omega | (simp; done) | (simp; omega)), ?_⟩); (try simp only [go_sem])) | ((refine call ?_); (refine ⟨_, q4 _ _ (by first | omega | (simp; done) | (simp; omega)), ?_⟩); (try simp only [go_sem]))) | ((first | (refine bsp ?_ ?_) | (refine csp ?_ ?_)); all_goals (intro hb; (fail_if_success (cases hb; done)); (try simp only [decide_eq_true_eq, decide_eq_false_iff_not, beq_iff_eq, bne_iff_ne, ne_eq, beq_eq_false_iff_ne, bne_eq_false_iff_eq, Bool.not_eq_true', Bool.not_eq_false', Bool.and_eq_true, Bool.or_eq_true, Decidable.not_not] at hb); (try simp only [go_sem]))))
        refine ⟨_, _, ?_, .refl _, i + 1, _, ⟨by omega, rfl⟩, rfl, rfl, ?_, ?_, ?_, ?_, ?_⟩
        · omega
        all_goals rfl
      · repeat' (first | (refine go ⟨?_⟩) | (((refine call ?_); (refine ⟨_, hlv _ _ (by first | omega | (simp; done) | (simp; omega)), ?_⟩); (try simp only [go_sem]))) | ((first | (refine bsp ?_ ?_) | (refine csp ?_ ?_)); all_goals (intro hb; (fail_if_success (cases hb; done)); (try simp only [decide_eq_true_eq, decide_eq_false_iff_not, beq_iff_eq, bne_iff_ne, ne_eq, beq_eq_false_iff_ne, bne_eq_false_iff_eq, Bool.not_eq_true', Bool.not_eq_false', Bool.and_eq_true, Bool.or_eq_true, Decidable.not_not] at hb); (try simp only [go_sem]))))
        refine ⟨by first | exact .inr rfl | exact .inl rfl, .inl ⟨[], _, (by dsimp only [Tryd.f8]; exact sv), ?_, by simp⟩⟩
        rfl
end Go.Proofs.YtomameefmobnlaaDoor
namespace Go.Proofs.YtomameefmobnlaaDoor.termSimple
open Go Go.ChangeShapes Go.WideShapes Go.ChangeAt Go.RowKit

theorem door_met (os : Os) (args : Array Value) : laidMetH Tryd.prog Rows.termSimpleRow.laid ((World.doorLaid Tryd.prog 600 os).forCall (fun _ _ => 0) ⟨#[], args, []⟩).memory :=
  laidMetH_of_parts3 (fuel := 8) (laidMet_of_run' 8 (by kernel_rfl) (by kernel_rfl)) (by kernel_rfl) (by kernel_rfl)

set_option maxRecDepth 100000 in
theorem lifted (os : Os) (started : os.Started) (H : Type) (enc : TypeId × Value → H) :
    ReturnsInHanded {} Tryd.checked os 8 .any (fun w args => (Rows.termSimpleSpec.pre enc Tryd.prog Tryd.f8 [] false w args ∧ laidMetH Tryd.prog Rows.termSimpleRow.laid w) ∧ sizedMet enc Tryd.prog Tryd.f8 (OpenSpec.ofChange Rows.termSimpleSpec) false w args)
      (Rows.termSimpleSpec.post enc Tryd.prog Tryd.f8 false true false false) := by
  refine returnsInHanded_of_change_and (C := Tryd.checked) (X := fun w _ => laidMetH Tryd.prog Rows.termSimpleRow.laid w) (fun _ _ _ hh h => h.of_heap hh) own started (by kernel_rfl) Tryd.func8
    (ChangeSpec.witness_shaped (enc := enc) (C := Tryd.checked) (os := os) (X := fun w _ => laidMetH Tryd.prog Rows.termSimpleRow.laid w) false (World.doorLaid Tryd.prog 600 os) #[.slice none 0 0, .int .i64 0, .int .i64 0] 8 rfl (World.shaped_of_RefB (by kernel_rfl) (by kernel_rfl)) (by kernel_rfl) (by kernel_rfl) (by kernel_rfl) (door_met os _)) ?_
  intro W base args ds gs before hval0 hW _ _ hL _
  have hval : ∀ (j : Nat) t v, Tryd.f8.params[j]? = some t → args[j]? = some v → Value.okWide Tryd.prog W .any base t v := hval0
  have hW' := hW
  obtain ⟨p, q, hA0, hV, rfl, hfz, hnd⟩ := hW
  have hA : DataW.TrodAll enc Tryd.prog W 0 (fun _ => true) true Tryd.f8.params.toList args.toList ds p := hA0
  rw [Tryd.params8] at hA hval
  obtain ⟨v0, vs0, d0, ds0, p0, q0, hargs, rfl, rfl, hd0, r0⟩ := trodAll_cons hA
  obtain ⟨v1, vs1, d1, ds1, p1, q1, rfl, rfl, rfl, hd1, r1⟩ := trodAll_cons r0
  obtain ⟨v2, vs2, d2, ds2, p2, q2, rfl, rfl, rfl, hd2, r2⟩ := trodAll_cons r1
  obtain ⟨rfl, rfl, rfl⟩ := trodAll_nil r2
  obtain rfl : args = #[v0, v1, v2] := by cases args; simp_all
  obtain ⟨l0, k0⟩ := (opens_slice Tryd.underlying22 (by kernel_rfl) (opens_int (k := .i64) Tryd.underlying3)).arg Tryd.underlying22 (hval 0 22 v0 rfl rfl) hd0
  obtain ⟨h0, q0⟩ := k0.ints
  have n0 := rd_len h0
  obtain ⟨a1, rfl, rfl, rfl, wa1⟩ := open_int Tryd.underlying3 (hval 1 3 v1 rfl rfl) hd1
  have b1 := i64_wf wa1
  obtain ⟨a2, rfl, rfl, rfl, wa2⟩ := open_int Tryd.underlying3 (hval 2 3 v2 rfl rfl) hd2
  have b2 := i64_wf wa2
  refine (law_calls (vals := [v0, .int .i64 a1, .int .i64 a2]) (xs := [LI l0, VI a1, VI a2]) sortB_ok (termSimple_ev l0 a1 a2 ⟨n0, q0⟩ b1 b2 [] 0 (Nat.le_refl _)) (glob_of_laid hL) (Pw.cons (rep_ints h0) (Pw.cons (rep_int a1) (Pw.cons (rep_int a2) (Pw.nil))))).mono fun e W' ⟨he, hb⟩ => ?_
  subst he
  exact ⟨_, rfl, law_post hW' rfl laidOut (by kernel_rfl) rfl Tryd.underlying4 (fun ds h => match ds, h with | [_, _, _], _ => rfl) hb⟩

theorem said : Rows.TermSimpleSaid :=
  OpenClaim.holds_of_wide 8 Tryd.f8 rfl rfl rfl rfl rfl rfl rfl ⟨rfl, rfl, rfl, rfl, rfl⟩ rfl rfl rfl rfl rfl (by kernel_rfl) Tryd.func8 (by kernel_rfl)
    (of_decide_eq_true (by kernel_rfl)) (by unfold Func.isWrapper; first | (rw [if_pos (by decide +kernel)]; kernel_rfl) | (rw [if_neg (by decide +kernel)]; exact ⟨rfl, rfl⟩))
    (fun os started H enc _ => lifted os started H enc)

theorem plain (f : FuncId) (fn : Func) (hf : Tryd.pinned.checked.prog.funcNamed "scoria/scorialaw20.TermSimple" = some f) (hfn : Tryd.pinned.checked.prog.funcs[f]? = some fn) :
    false = Tryd.pinned.checked.prog.looks [] ∧ ∀ (j : Nat) t, fn.params[j]? = some t → Tryd.pinned.checked.prog.wantsStandIn t = false := by
  obtain rfl : f = 8 := Option.some.inj ((show Tryd.prog.funcNamed "scoria/scorialaw20.TermSimple" = some 8 by kernel_rfl).symm.trans hf) |>.symm
  obtain rfl : fn = Tryd.f8 := (Option.some.inj (Tryd.func8.symm.trans hfn)).symm
  refine ⟨by kernel_rfl, fun j t ht => ?_⟩
  have hall : (Tryd.f8.params.toList.all fun t => !(Tryd.prog.wantsStandIn t)) = true := by kernel_rfl
  have h := List.all_eq_true.1 hall t (Array.mem_toList_iff.2 (Array.mem_of_getElem? ht))
  exact (Bool.not_eq_true' _).mp h

/-- THE CARD. -/
theorem termSimple_holds : Rows.TermSimpleCardSaid :=
  Claim7.holds_tied_plain_at .later [] _ _ _ _ said (fun _ h => by cases h) (by kernel_rfl) (fun _ h => by cases h) termSimple_row_tie rfl ⟨rfl, rfl⟩ (by kernel_rfl) rfl plain (by kernel_rfl)
#print axioms termSimple_holds
end Go.Proofs.YtomameefmobnlaaDoor.termSimple
