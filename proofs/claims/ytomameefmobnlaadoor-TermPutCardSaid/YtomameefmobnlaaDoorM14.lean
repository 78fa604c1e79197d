/-
  Terms: the reference's Valid and Put. No condition of its own. Terms: the reference's Put. No condition of its own.
-/
import Derived.Test.YtomameefmobnlaaDoorM12
import Derived.Test.YtomameefmobnlaaDoorM13
import Derived.Test.YtomameefmobnlaaDoorM3
import Derived.Test.YtomameefmobnlaaDoorM5
namespace Go.Proofs.YtomameefmobnlaaDoor
open Go Go.RowKit

attribute [local irreducible] EvOps EvC
attribute [local go_sem] List.getElem?_toArray getS List.flatten_cons List.flatten_nil List.contains_nil List.append_nil cellsTs
set_option linter.unusedSimpArgs false
set_option linter.unusedVariables false
set_option maxRecDepth 100000
set_option maxHeartbeats 8000000
theorem wt_vars {k : Int} {t : Tr} (h : Wt k t) : ∀ p ∈ varP t, (0 ≤ p.1 ∧ p.1 ≤ 63) ∧ (p.2 = 0 ∨ p.2 = 1) := by
  induction h with
  | num => intro p hp; simp [varP, varPs] at hp
  | truth => intro p hp; simp [varP, varPs] at hp
  | var h1 h2 h3 => intro p hp; simp [varP, varPs] at hp; subst hp; exact ⟨⟨h1, h2⟩, h3⟩
  | word h1 h2 ha hb iha ihb =>
    intro p hp
    simp [varP, varPs] at hp
    exact hp.elim (iha p) (ihb p)
  | comp h1 h2 ha hb iha ihb =>
    intro p hp
    simp [varP, varPs] at hp
    exact hp.elim (iha p) (ihb p)
  | both h1 h2 ha hb iha ihb =>
    intro p hp
    simp [varP, varPs] at hp
    exact hp.elim (iha p) (ihb p)
  | not ha ih =>
    intro p hp
    simp [varP, varPs] at hp
    exact ih p hp
  | cond hc ha hb ihc iha ihb =>
    intro p hp
    simp [varP, varPs] at hp
    exact hp.elim (ihc p) fun hp => hp.elim (iha p) (ihb p)
theorem rValid_ev (t : Tr) (hs : tsz t < 1000000) (sto : Sto) (lo : Nat) (hlo : lo ≤ sto.length) : CallEv Tryd.prog tab B0 14 [.v (TV t)] sto lo (.v (.tup [VI (max (validS t) 0), .bool (decide (0 ≤ validS t))])) sto := by
  have hsh := fun sto lo hlo => shaped_ev (tsz t) t sto lo (Nat.le_refl _) hs hlo
  have hty := fun sto lo hlo => type_ev (tsz t) t sto lo (Nat.le_refl _) hs hlo
  by_cases h1 : shapedS t = true
  · have hw := shaped_wt t h1
    have hft := fun sto lo hlo => fit_ev t hs (wt_vars hw) sto lo hlo
    have hk := hw.kind
    rw [h1] at hsh
    clear hw
    by_cases h2 : fitS t = true
    · have e : validS t = typeR t := by rw [validS, h1, h2]; rfl
      rw [e, show max (typeR t) 0 = typeR t from by omega, decide_eq_true (by omega)]
      rw [h2] at hft
      generalize typeR t = k at *
      clear e h1 h2
      obtain ⟨k0, n0, m0, l0⟩ := t
      refine CallEv.intro ⟨_, _, [], Tryd.func14, rfl, by decide, ?_⟩; simp only [go_sem, Tryd.ntmps14]
      repeat' (first | (refine go ⟨?_⟩) | (first | ((refine call ?_); (refine ⟨_, hsh _ _ (by first | omega | (simp; done) | (simp; omega)), ?_⟩); (try simp only [go_sem])) | ((refine call ?_); (refine ⟨_, hft _ _ (by first | omega | (simp; done) | (simp; omega)), ?_⟩); (try simp only [go_sem])) | ((refine call ?_); (refine ⟨_, hty _ _ (by first | omega | (simp; done) | (simp; omega)), ?_⟩); (try simp only [go_sem]))) | ((first | (refine bsp ?_ ?_) | (refine csp ?_ ?_)); all_goals (intro hb; (fail_if_success (cases hb; done)); (try simp only [decide_eq_true_eq, decide_eq_false_iff_not, beq_iff_eq, bne_iff_ne, ne_eq, beq_eq_false_iff_ne, bne_eq_false_iff_eq, Bool.not_eq_true', Bool.not_eq_false', Bool.and_eq_true, Bool.or_eq_true, Decidable.not_not] at hb); (try simp only [go_sem]))))
      refine ⟨by first | exact .inr rfl | exact .inl rfl, .inl ⟨[], _, (by dsimp only [Tryd.f14]; exact sv), ?_, by simp⟩⟩
      rfl
    · have h2' : fitS t = false := by simpa using h2
      have e : validS t = -1 := by rw [validS, h1, h2']; rfl
      rw [e]
      rw [h2'] at hft
      clear e h1 h2 h2'
      obtain ⟨k0, n0, m0, l0⟩ := t
      refine CallEv.intro ⟨_, _, [], Tryd.func14, rfl, by decide, ?_⟩; simp only [go_sem, Tryd.ntmps14]
      repeat' (first | (refine go ⟨?_⟩) | (first | ((refine call ?_); (refine ⟨_, hsh _ _ (by first | omega | (simp; done) | (simp; omega)), ?_⟩); (try simp only [go_sem])) | ((refine call ?_); (refine ⟨_, hft _ _ (by first | omega | (simp; done) | (simp; omega)), ?_⟩); (try simp only [go_sem])) | ((refine call ?_); (refine ⟨_, hty _ _ (by first | omega | (simp; done) | (simp; omega)), ?_⟩); (try simp only [go_sem]))) | ((first | (refine bsp ?_ ?_) | (refine csp ?_ ?_)); all_goals (intro hb; (fail_if_success (cases hb; done)); (try simp only [decide_eq_true_eq, decide_eq_false_iff_not, beq_iff_eq, bne_iff_ne, ne_eq, beq_eq_false_iff_ne, bne_eq_false_iff_eq, Bool.not_eq_true', Bool.not_eq_false', Bool.and_eq_true, Bool.or_eq_true, Decidable.not_not] at hb); (try simp only [go_sem]))))
      refine ⟨by first | exact .inr rfl | exact .inl rfl, .inl ⟨[], _, (by dsimp only [Tryd.f14]; exact sv), ?_, by simp⟩⟩
      rfl
  · have h1' : shapedS t = false := by simpa using h1
    have e : validS t = -1 := by rw [validS, h1']; rfl
    rw [e]
    rw [h1'] at hsh
    clear e h1 h1'
    obtain ⟨k0, n0, m0, l0⟩ := t
    refine CallEv.intro ⟨_, _, [], Tryd.func14, rfl, by decide, ?_⟩; simp only [go_sem, Tryd.ntmps14]
    repeat' (first | (refine go ⟨?_⟩) | (first | ((refine call ?_); (refine ⟨_, hsh _ _ (by first | omega | (simp; done) | (simp; omega)), ?_⟩); (try simp only [go_sem]))) | ((first | (refine bsp ?_ ?_) | (refine csp ?_ ?_)); all_goals (intro hb; (fail_if_success (cases hb; done)); (try simp only [decide_eq_true_eq, decide_eq_false_iff_not, beq_iff_eq, bne_iff_ne, ne_eq, beq_eq_false_iff_ne, bne_eq_false_iff_eq, Bool.not_eq_true', Bool.not_eq_false', Bool.and_eq_true, Bool.or_eq_true, Decidable.not_not] at hb); (try simp only [go_sem]))))
    refine ⟨by first | exact .inr rfl | exact .inl rfl, .inl ⟨[], _, (by dsimp only [Tryd.f14]; exact sv), ?_, by simp⟩⟩
    rfl
end Go.Proofs.YtomameefmobnlaaDoor
namespace Go.Proofs.YtomameefmobnlaaDoor
open Go Go.RowKit

attribute [local irreducible] EvOps EvC
attribute [local go_sem] List.getElem?_toArray getS List.flatten_cons List.flatten_nil List.contains_nil List.append_nil cellsTs
set_option linter.unusedSimpArgs false
set_option linter.unusedVariables false
set_option maxRecDepth 100000
set_option maxHeartbeats 8000000
theorem rPut_ev (L : List Tr) (hL : tszs L < 1000000) (N : Nat) : ∀ (t : Tr) (sto : Sto) (lo : Nat), tsz t ≤ N → tsz t < 1000000 → (∀ p ∈ varP t, 0 ≤ p.1 ∧ 0 ≤ p.2) → lo ≤ sto.length →
    CallEv Tryd.prog tab B0 27 [.v (TV t), .v (.sl L.length (cellsTs L))] sto lo (.v (TV (putS L t))) sto := by
  have hLl := tszs_length L
  induction N with
  | zero => intro t sto lo h; have := tsz_pos t; omega
  | succ N ih =>
    intro t sto lo hN hs hv hlo
    obtain ⟨k, n, m, l⟩ := t
    simp only [tsz] at hN hs
    have hll := tszs_length l
    rw [putS]
    by_cases k6 : k = 6
    · subst k6
      rw [if_pos rfl]
      have hn0 : 0 ≤ n ∧ 0 ≤ m := hv (n, m) (by rw [varP, if_pos rfl]; simp)
      clear ih hv hN
      obtain ⟨hn0, hm0⟩ := hn0
      obtain ⟨j, rfl⟩ := Int.eq_ofNat_of_zero_le hn0
      by_cases c : (j : Int) < L.length
      · have hj : j < L.length := by omega
        have hz := tsz_get hj
        rw [Int.toNat_natCast, show L.getD j (.mk 0 0 0 []) = L[j] from by simp [List.getD, hj]]
        have hvl := fun sto lo hlo => rValid_ev L[j] (by omega) sto lo hlo
        have htt : ∃ k2 n2 m2 l2, L[j] = .mk k2 n2 m2 l2 := by
          cases L[j] with
          | mk a b c d => exact ⟨a, b, c, d, rfl⟩
        obtain ⟨k2, n2, m2, l2, htt⟩ := htt
        rw [htt] at hvl ⊢
        have hng : ¬ 0 ≤ validS (.mk k2 n2 m2 l2) → validS (.mk k2 n2 m2 l2) = -1 := fun hh => valid_neg hh
        generalize validS (.mk k2 n2 m2 l2) = v at *
        by_cases c2 : v = m
        · rw [if_pos ⟨c, c2⟩]
          subst c2
          rw [show max v 0 = v from by omega, decide_eq_true hm0] at hvl
          refine CallEv.intro ⟨_, _, [], Tryd.func27, rfl, by decide, ?_⟩; simp only [go_sem, Tryd.ntmps27]
          repeat' (first | (refine go ⟨?_⟩) | (fail) | ((first | (refine bsp ?_ ?_) | (refine csp ?_ ?_)); all_goals (intro hb; (fail_if_success (cases hb; done)); (try simp only [decide_eq_true_eq, decide_eq_false_iff_not, beq_iff_eq, bne_iff_ne, ne_eq, beq_eq_false_iff_ne, bne_eq_false_iff_eq, Bool.not_eq_true', Bool.not_eq_false', Bool.and_eq_true, Bool.or_eq_true, Decidable.not_not] at hb); (try simp only [go_sem]))))
          rw [htt]
          repeat' (first | (refine go ⟨?_⟩) | (first | ((refine call ?_); (refine ⟨_, hvl _ _ (by first | omega | (simp; done) | (simp; omega)), ?_⟩); (try simp only [go_sem])) | (rw [htt])) | ((first | (refine bsp ?_ ?_) | (refine csp ?_ ?_)); all_goals (intro hb; (fail_if_success (cases hb; done)); (try simp only [decide_eq_true_eq, decide_eq_false_iff_not, beq_iff_eq, bne_iff_ne, ne_eq, beq_eq_false_iff_ne, bne_eq_false_iff_eq, Bool.not_eq_true', Bool.not_eq_false', Bool.and_eq_true, Bool.or_eq_true, Decidable.not_not] at hb); (try simp only [go_sem]))))
          refine ⟨by first | exact .inr rfl | exact .inl rfl, .inl ⟨[], _, (by dsimp only [Tryd.f27]; exact sv), ?_, by simp⟩⟩
          rfl
        · rw [if_neg (fun h => c2 h.2)]
          by_cases c3 : 0 ≤ v
          · rw [show max v 0 = v from by omega, decide_eq_true c3] at hvl
            refine CallEv.intro ⟨_, _, [], Tryd.func27, rfl, by decide, ?_⟩; simp only [go_sem, Tryd.ntmps27]
            repeat' (first | (refine go ⟨?_⟩) | (fail) | ((first | (refine bsp ?_ ?_) | (refine csp ?_ ?_)); all_goals (intro hb; (fail_if_success (cases hb; done)); (try simp only [decide_eq_true_eq, decide_eq_false_iff_not, beq_iff_eq, bne_iff_ne, ne_eq, beq_eq_false_iff_ne, bne_eq_false_iff_eq, Bool.not_eq_true', Bool.not_eq_false', Bool.and_eq_true, Bool.or_eq_true, Decidable.not_not] at hb); (try simp only [go_sem]))))
            rw [htt]
            repeat' (first | (refine go ⟨?_⟩) | (first | ((refine call ?_); (refine ⟨_, hvl _ _ (by first | omega | (simp; done) | (simp; omega)), ?_⟩); (try simp only [go_sem])) | (rw [htt])) | ((first | (refine bsp ?_ ?_) | (refine csp ?_ ?_)); all_goals (intro hb; (fail_if_success (cases hb; done)); (try simp only [decide_eq_true_eq, decide_eq_false_iff_not, beq_iff_eq, bne_iff_ne, ne_eq, beq_eq_false_iff_ne, bne_eq_false_iff_eq, Bool.not_eq_true', Bool.not_eq_false', Bool.and_eq_true, Bool.or_eq_true, Decidable.not_not] at hb); (try simp only [go_sem]))))
            refine ⟨by first | exact .inr rfl | exact .inl rfl, .inl ⟨[], _, (by dsimp only [Tryd.f27]; exact sv), ?_, by simp⟩⟩
            rfl
          · rw [decide_eq_false c3] at hvl
            refine CallEv.intro ⟨_, _, [], Tryd.func27, rfl, by decide, ?_⟩; simp only [go_sem, Tryd.ntmps27]
            repeat' (first | (refine go ⟨?_⟩) | (fail) | ((first | (refine bsp ?_ ?_) | (refine csp ?_ ?_)); all_goals (intro hb; (fail_if_success (cases hb; done)); (try simp only [decide_eq_true_eq, decide_eq_false_iff_not, beq_iff_eq, bne_iff_ne, ne_eq, beq_eq_false_iff_ne, bne_eq_false_iff_eq, Bool.not_eq_true', Bool.not_eq_false', Bool.and_eq_true, Bool.or_eq_true, Decidable.not_not] at hb); (try simp only [go_sem]))))
            rw [htt]
            repeat' (first | (refine go ⟨?_⟩) | (first | ((refine call ?_); (refine ⟨_, hvl _ _ (by first | omega | (simp; done) | (simp; omega)), ?_⟩); (try simp only [go_sem])) | (rw [htt])) | ((first | (refine bsp ?_ ?_) | (refine csp ?_ ?_)); all_goals (intro hb; (fail_if_success (cases hb; done)); (try simp only [decide_eq_true_eq, decide_eq_false_iff_not, beq_iff_eq, bne_iff_ne, ne_eq, beq_eq_false_iff_ne, bne_eq_false_iff_eq, Bool.not_eq_true', Bool.not_eq_false', Bool.and_eq_true, Bool.or_eq_true, Decidable.not_not] at hb); (try simp only [go_sem]))))
            refine ⟨by first | exact .inr rfl | exact .inl rfl, .inl ⟨[], _, (by dsimp only [Tryd.f27]; exact sv), ?_, by simp⟩⟩
            rfl
      · rw [if_neg (fun h => c h.1)]
        refine CallEv.intro ⟨_, _, [], Tryd.func27, rfl, by decide, ?_⟩; simp only [go_sem, Tryd.ntmps27]
        repeat' (first | (refine go ⟨?_⟩) | (fail) | ((first | (refine bsp ?_ ?_) | (refine csp ?_ ?_)); all_goals (intro hb; (fail_if_success (cases hb; done)); (try simp only [decide_eq_true_eq, decide_eq_false_iff_not, beq_iff_eq, bne_iff_ne, ne_eq, beq_eq_false_iff_ne, bne_eq_false_iff_eq, Bool.not_eq_true', Bool.not_eq_false', Bool.and_eq_true, Bool.or_eq_true, Decidable.not_not] at hb); (try simp only [go_sem]))))
        refine ⟨by first | exact .inr rfl | exact .inl rfl, .inl ⟨[], _, (by dsimp only [Tryd.f27]; exact sv), ?_, by simp⟩⟩
        rfl
    · rw [if_neg k6, putSs_map]
      have hkv : ∀ t ∈ l, ∀ p ∈ varP t, 0 ≤ p.1 ∧ 0 ≤ p.2 := by
        intro t ht p hp
        refine hv p ?_
        rw [varP, if_neg k6, List.nil_append]
        clear hv ih hN hs hll
        induction l with
        | nil => cases ht
        | cons a l ih =>
          rw [varPs, List.mem_append]
          rcases List.mem_cons.1 ht with rfl | ht
          · exact .inl hp
          · exact .inr (ih ht)
      clear hv
      refine CallEv.intro ⟨_, _, [], Tryd.func27, rfl, by decide, ?_⟩; simp only [go_sem, Tryd.ntmps27]
      repeat' (first | (refine go ⟨?_⟩) | (fail) | ((first | (refine bsp ?_ ?_) | (refine csp ?_ ?_)); all_goals (intro hb; (fail_if_success (cases hb; done)); (try simp only [decide_eq_true_eq, decide_eq_false_iff_not, beq_iff_eq, bne_iff_ne, ne_eq, beq_eq_false_iff_ne, bne_eq_false_iff_eq, Bool.not_eq_true', Bool.not_eq_false', Bool.and_eq_true, Bool.or_eq_true, Decidable.not_not] at hb); (try simp only [go_sem]))))
      refine c_loop (fun mm s => ∃ (i : Nat) (ys : List Tr) (es : Option (TypeId × Nat)) (js : List Ent), (i ≤ l.length ∧ mm = l.length - i ∧ ys = (l.take i).map (putS L) ∧ (es = none ∨ es = some (25, 4))) ∧ (s.env.length = 59 ∧ s.sto = sto ++ .cells [.v (VI k), .v (VI n), .v (VI m), .v (.sl l.length (cellsTs l))] :: .cells [.v (VI 0), .v (VI 0), .v (VI 0), .nilS] :: .arr es false ys.length (cellsTs ys) :: js ∧ s.env[1]? = some (.v (.sl L.length (cellsTs L))) ∧ s.env[2]? = some (.ptr sto.length 0) ∧ s.env[4]? = some (.ptr (sto.length + 1) 0) ∧ s.env[7]? = some (.arr (sto.length + 2) ys.length) ∧ s.env[8]? = some (.v (VI i)))) (.adopt _ 7 false rfl (by simp; omega)) ⟨0, [], none, [], ⟨by omega, rfl, by simp, .inl rfl⟩, rfl, ?_, ?_, ?_, ?_, ?_, ?_⟩ ?_
      all_goals first | rfl | (simp [cellsTs]; done) | skip
      rintro mm s ⟨i, ys, es, js, ⟨h1, rfl, h2, h3⟩, hL, hT, k1, k2, k4, k7, k8⟩
      obtain ⟨env, st0⟩ := s; obtain ⟨J, hJ⟩ := listJ hL; rw [show (List.range 59).map J = J 0 :: J 1 :: J 2 :: J 3 :: J 4 :: J 5 :: J 6 :: J 7 :: J 8 :: J 9 :: J 10 :: J 11 :: J 12 :: J 13 :: J 14 :: J 15 :: J 16 :: J 17 :: J 18 :: J 19 :: J 20 :: J 21 :: J 22 :: J 23 :: J 24 :: J 25 :: J 26 :: J 27 :: J 28 :: J 29 :: J 30 :: J 31 :: J 32 :: J 33 :: J 34 :: J 35 :: J 36 :: J 37 :: J 38 :: J 39 :: J 40 :: J 41 :: J 42 :: J 43 :: J 44 :: J 45 :: J 46 :: J 47 :: J 48 :: J 49 :: J 50 :: J 51 :: J 52 :: J 53 :: J 54 :: J 55 :: J 56 :: J 57 :: J 58 :: [] from by kernel_rfl] at hJ; replace k1 := Option.some.inj ((congrArg (·[1]?) hJ).symm.trans k1); replace k2 := Option.some.inj ((congrArg (·[2]?) hJ).symm.trans k2); replace k4 := Option.some.inj ((congrArg (·[4]?) hJ).symm.trans k4); replace k7 := Option.some.inj ((congrArg (·[7]?) hJ).symm.trans k7); replace k8 := Option.some.inj ((congrArg (·[8]?) hJ).symm.trans k8); rw [k1, k2, k4, k7, k8] at hJ; dsimp only at hJ hT; subst hJ; replace hT := hT.symm; subst hT; clear hL k1 k2 k4 k7 k8
      have hyl : ys.length = i := by rw [h2, List.length_map, List.length_take]; omega
      by_cases hi : i < l.length
      · have hz := tsz_get hi
        have hnx : ys ++ [putS L l[i]] = (l.take (i + 1)).map (putS L) := by
          rw [List.take_succ_eq_append_getElem hi, List.map_append, ← h2]; rfl
        have hk := fun sto lo hlo => ih l[i] sto lo (by omega) (by omega) (hkv _ (List.getElem_mem hi)) hlo
        clear ih hkv h2
        generalize htt : l[i] = t at *
        generalize putS L t = r at *
        obtain ⟨k2, n2, m2, l2⟩ := t
        obtain ⟨k3, n3, m3, l3⟩ := r
        repeat' (first | (refine go ⟨?_⟩) | (fail) | ((first | (refine bsp ?_ ?_) | (refine csp ?_ ?_)); all_goals (intro hb; (fail_if_success (cases hb; done)); (try simp only [decide_eq_true_eq, decide_eq_false_iff_not, beq_iff_eq, bne_iff_ne, ne_eq, beq_eq_false_iff_ne, bne_eq_false_iff_eq, Bool.not_eq_true', Bool.not_eq_false', Bool.and_eq_true, Bool.or_eq_true, Decidable.not_not] at hb); (try simp only [go_sem]))))
        rw [htt]
        repeat' (first | (refine go ⟨?_⟩) | (((refine call ?_); (refine ⟨_, hk _ _ (by first | omega | (simp; done) | (simp; omega)), ?_⟩); (try simp only [go_sem]))) | ((first | (refine bsp ?_ ?_) | (refine csp ?_ ?_)); all_goals (intro hb; (fail_if_success (cases hb; done)); (try simp only [decide_eq_true_eq, decide_eq_false_iff_not, beq_iff_eq, bne_iff_ne, ne_eq, beq_eq_false_iff_ne, bne_eq_false_iff_eq, Bool.not_eq_true', Bool.not_eq_false', Bool.and_eq_true, Bool.or_eq_true, Decidable.not_not] at hb); (try simp only [go_sem]))))
        refine ⟨_, _, ?_, .refl _, i + 1, ys ++ [.mk k3 n3 m3 l3], some (25, 4), js, ⟨by omega, rfl, hnx, .inr rfl⟩, rfl, ?_, ?_, ?_, ?_, ?_, ?_⟩
        · omega
        all_goals first | rfl | (simp [cellsTs_append, cellsTs, cellsT]; done)
      · rw [List.take_of_length_le (by omega)] at h2
        have hil : i = l.length := by omega
        subst hil
        clear ih hkv hi
        repeat' (first | (refine go ⟨?_⟩) | (fail) | ((first | (refine bsp ?_ ?_) | (refine csp ?_ ?_)); all_goals (intro hb; (fail_if_success (cases hb; done)); (try simp only [decide_eq_true_eq, decide_eq_false_iff_not, beq_iff_eq, bne_iff_ne, ne_eq, beq_eq_false_iff_ne, bne_eq_false_iff_eq, Bool.not_eq_true', Bool.not_eq_false', Bool.and_eq_true, Bool.or_eq_true, Decidable.not_not] at hb); (try simp only [go_sem]))))
        refine ⟨by first | exact .inr rfl | exact .inl rfl, .inl ⟨[], _, (by dsimp only [Tryd.f27]; exact sv), ?_, by simp⟩⟩
        show D.v (.agg (cellsT (.mk k n m (l.map (putS L))))) = _
        rw [← h2]
        simp only [cellsT]
end Go.Proofs.YtomameefmobnlaaDoor
