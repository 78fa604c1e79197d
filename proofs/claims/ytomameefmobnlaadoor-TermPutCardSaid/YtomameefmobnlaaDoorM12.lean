/-
  Terms: the package's Valid. No condition of its own. Terms: the variables' nodes. Plain Lean. No condition of its own. Terms: the reference's variables. No condition of its own. Terms: the reference's Vars. No condition of its own. Terms: what TermPut says. Plain Lean. No condition of its own. Terms: the reference's shapes of kids, one by one; its Fit. Plain Lean. No condition of its own. Terms: the reference's table of the variables' types. Plain Lean. No condition of its own. Terms: the reference's Fit at one term. No condition of its own.
-/
import Derived.Test.YtomameefmobnlaaDoorM11
import Derived.Test.YtomameefmobnlaaDoorM5
import Derived.Test.YtomameefmobnlaaDoorM7
import Derived.Test.YtomameefmobnlaaDoorM3
namespace Go.Proofs.YtomameefmobnlaaDoor
open Go Go.RowKit

attribute [local irreducible] EvOps EvC
attribute [local go_sem] List.getElem?_toArray getS List.flatten_cons List.flatten_nil List.contains_nil List.append_nil
set_option linter.unusedSimpArgs false
set_option linter.unusedVariables false
set_option maxRecDepth 100000
set_option maxHeartbeats 4000000
theorem types_valid (t : Tr) : max (typesC t []).1 0 = max (validS t) 0 ∧ decide ((typesC t []).1 ≥ 0) = decide (0 ≤ validS t) := by
  obtain ⟨h1, h2⟩ := valid_eq t
  rw [h1, h2]
  unfold validS
  cases hb : (shapedS t && fitS t) with
  | true =>
    rw [Bool.and_eq_true] at hb
    have hk := (shaped_wt t hb.1).kind
    simp only [if_true]
    exact ⟨by omega, by simp; omega⟩
  | false => refine ⟨?_, ?_⟩ <;> simp <;> decide
theorem valid_ev : ValidP := by
  intro t sto lo hs hlo
  have hty := fun id sto lo h1 h2 h3 => types_ev (tsz t) t [] id sto lo (Nat.le_refl _) hs h1 h2 h3
  obtain ⟨e1, e2⟩ := types_valid t
  rw [← e1, ← e2]
  clear e1 e2
  generalize typesC t [] = c at *
  obtain ⟨c, mp⟩ := c
  dsimp only at *
  obtain ⟨k, n, m, l⟩ := t
  refine CallEv.intro ⟨_, _, [], Tryd.func13, rfl, by decide, ?_⟩; simp only [go_sem, Tryd.ntmps13]
  repeat' (first | (refine go ⟨?_⟩) | (((with_reducible apply ops_callW); rfl; (simp (disch := (first | omega | assumption | ((repeat' with_reducible apply And.intro) <;> first | omega | assumption | rfl | (apply Or.inl; rfl) | (apply Or.inr; first | rfl | trivial | fail) | fail) | fail)) only [go_sem, if_pos, if_neg, wrapI, wrapU, decide_eq_true, decide_eq_false, beqT, beqF, bneT, bneF] <;> rfl); (exact hty (sto.length + 1) _ _ (by simp (disch := (first | omega | assumption | ((repeat' with_reducible apply And.intro) <;> first | omega | assumption | rfl | (apply Or.inl; rfl) | (apply Or.inr; first | rfl | trivial | fail) | fail) | fail)) only [go_sem, if_pos, if_neg, wrapI, wrapU, decide_eq_true, decide_eq_false, beqT, beqF, bneT, bneF] <;> rfl) (by omega) (by first | omega | (simp; done) | (simp; omega))); ((try simp only [go_sem]); (first | exact ho_arr | exact ho_arr2 | exact ho_map | exact ho_app (by first | omega | (simp; done) | (simp; omega)) | exact ho_app2 (by first | omega | (simp; done) | (simp; omega)))); (try simp only [go_sem]))) | ((first | (refine bsp ?_ ?_) | (refine csp ?_ ?_)); all_goals (intro hb; (fail_if_success (cases hb; done)); (try simp only [decide_eq_true_eq, decide_eq_false_iff_not, beq_iff_eq, bne_iff_ne, ne_eq, beq_eq_false_iff_ne, bne_eq_false_iff_eq, Bool.not_eq_true', Bool.not_eq_false', Bool.and_eq_true, Bool.or_eq_true, Decidable.not_not] at hb); (try simp only [go_sem]))))
  refine ⟨by first | exact .inr rfl | exact .inl rfl, .inl ⟨[], _, (by dsimp only [Tryd.f13]; exact sv), ?_, by simp⟩⟩
  rw [show max c 0 = if 0 > c then 0 else c from by split <;> omega]
end Go.Proofs.YtomameefmobnlaaDoor
namespace Go.Proofs.YtomameefmobnlaaDoor
open Go
mutual
def nodesT : Tr → List Tr
  | .mk k n m l => (if k = 6 then [.mk k n m l] else []) ++ nodesTs l
def nodesTs : List Tr → List Tr
  | [] => []
  | t :: l => nodesT t ++ nodesTs l
end
theorem nodesTs_app : ∀ a b : List Tr, nodesTs (a ++ b) = nodesTs a ++ nodesTs b
  | [], b => by rw [nodesTs]; rfl
  | t :: a, b => by rw [List.cons_append, nodesTs, nodesTs, nodesTs_app a b, List.append_assoc]
theorem nodesTs_take {l : List Tr} {i : Nat} (h : i < l.length) : nodesTs (l.take (i + 1)) = nodesTs (l.take i) ++ nodesT l[i] := by
  rw [List.take_succ_eq_append_getElem h, nodesTs_app, nodesTs, nodesTs, List.append_nil]
mutual
theorem nodesT_len : ∀ t : Tr, (nodesT t).length ≤ tsz t
  | .mk k n m l => by
    have := nodesTs_len l
    rw [nodesT, tsz, List.length_append]
    split <;> simp <;> omega
theorem nodesTs_len : ∀ l : List Tr, (nodesTs l).length ≤ tszs l
  | [] => by simp [nodesTs, tszs]
  | t :: l => by
    have := nodesT_len t; have := nodesTs_len l
    rw [nodesTs, tszs, List.length_append]; omega
end
mutual
theorem nodesT_varP : ∀ t : Tr, (nodesT t).map (fun t => (t.n, t.m)) = varP t
  | .mk k n m l => by
    rw [nodesT, varP, List.map_append, nodesTs_varP l]
    split <;> rfl
theorem nodesTs_varP : ∀ l : List Tr, (nodesTs l).map (fun t => (t.n, t.m)) = varPs l
  | [] => by simp [nodesTs, varPs]
  | t :: l => by rw [nodesTs, varPs, List.map_append, nodesT_varP t, nodesTs_varP l]
end
theorem nodes_any {t : Tr} {n : Int} : (∃ x ∈ nodesT t, x.n = n) ↔ ∃ p ∈ varP t, p.1 = n := by
  rw [← nodesT_varP]
  constructor
  · rintro ⟨x, hx, rfl⟩
    exact ⟨(x.n, x.m), List.mem_map.2 ⟨x, hx, rfl⟩, rfl⟩
  · rintro ⟨p, hp, rfl⟩
    obtain ⟨x, hx, rfl⟩ := List.mem_map.1 hp
    exact ⟨x, hx, rfl⟩
theorem upTo_succ (P : Int → Bool) (n : Nat) : upTo P (n + 1) = upTo P n ++ (if P n then [(n : Int)] else []) := by
  unfold upTo
  rw [List.range_succ, List.map_append, List.filter_append]
  congr 1
  simp only [List.map_cons, List.map_nil, List.filter_cons, List.filter_nil]
theorem upTo_len (P : Int → Bool) (n : Nat) : (upTo P n).length ≤ n := by
  unfold upTo
  exact Nat.le_trans (List.length_filter_le _ _) (by simp)
end Go.Proofs.YtomameefmobnlaaDoor
namespace Go.Proofs.YtomameefmobnlaaDoor
open Go Go.RowKit

attribute [local irreducible] EvOps EvC
attribute [local go_sem] List.getElem?_toArray getS List.flatten_cons List.flatten_nil List.contains_nil List.append_nil cellsTs
set_option linter.unusedSimpArgs false
set_option linter.unusedVariables false
set_option maxRecDepth 100000
set_option maxHeartbeats 4000000
theorem nodes_ev (N : Nat) : ∀ (t : Tr) (sto : Sto) (lo : Nat), tsz t ≤ N → tsz t < 1000000 → lo ≤ sto.length → CallEv Tryd.prog tab B0 48 [.v (TV t)] sto lo (.v (.sl (nodesT t).length (cellsTs (nodesT t)))) sto := by
  induction N with
  | zero => intro t sto lo h; have := tsz_pos t; omega
  | succ N ih =>
    intro t sto lo hN hs hlo
    obtain ⟨k, n, m, l⟩ := t
    simp only [tsz] at hN hs
    have hll := tszs_length l
    rw [nodesT]
    obtain ⟨y0, hy0⟩ : ∃ y0 : List Tr, y0 = if k = 6 then [.mk k n m l] else [] := ⟨_, rfl⟩
    rw [← hy0]
    have hyl : y0.length ≤ 1 := by rw [hy0]; split <;> simp
    refine CallEv.intro ⟨_, _, [], Tryd.func48, rfl, by decide, ?_⟩; simp only [go_sem, Tryd.ntmps48]
    by_cases k6 : k = 6
    all_goals first | rw [if_pos k6] at hy0 | rw [if_neg k6] at hy0
    all_goals
      repeat' (first | (refine go ⟨?_⟩) | (fail) | ((first | (refine bsp ?_ ?_) | (refine csp ?_ ?_)); all_goals (intro hb; (fail_if_success (cases hb; done)); (try simp only [decide_eq_true_eq, decide_eq_false_iff_not, beq_iff_eq, bne_iff_ne, ne_eq, beq_eq_false_iff_ne, bne_eq_false_iff_eq, Bool.not_eq_true', Bool.not_eq_false', Bool.and_eq_true, Bool.or_eq_true, Decidable.not_not] at hb); (try simp only [go_sem]))))
    case' pos =>
      subst hy0
      refine c_loop (fun mm s => ∃ (i : Nat) (ys : List Tr) (es : Option (TypeId × Nat)) (js : List Ent), (i ≤ l.length ∧ mm = l.length - i ∧ ys = [.mk k n m l] ++ nodesTs (l.take i) ∧ (es = none ∨ es = some (25, 4))) ∧ (s.env.length = 28 ∧ s.sto = sto ++ .cells [.v (VI k), .v (VI n), .v (VI m), .v (.sl l.length (cellsTs l))] :: .arr es false ys.length (cellsTs ys) :: js ∧ s.env[1]? = some (.ptr sto.length 0) ∧ s.env[3]? = some (.arr (sto.length + 1) ys.length) ∧ s.env[4]? = some (.v (VI i)))) (.refl _) ⟨0, [.mk k n m l], some (25, 4), [], ⟨by omega, rfl, by simp [nodesTs], .inr rfl⟩, rfl, rfl, ?_, ?_, ?_⟩ ?_
    case' neg =>
      subst hy0
      refine c_loop (fun mm s => ∃ (i : Nat) (ys : List Tr) (es : Option (TypeId × Nat)) (js : List Ent), (i ≤ l.length ∧ mm = l.length - i ∧ ys = [] ++ nodesTs (l.take i) ∧ (es = none ∨ es = some (25, 4))) ∧ (s.env.length = 28 ∧ s.sto = sto ++ .cells [.v (VI k), .v (VI n), .v (VI m), .v (.sl l.length (cellsTs l))] :: .arr es false ys.length (cellsTs ys) :: js ∧ s.env[1]? = some (.ptr sto.length 0) ∧ s.env[3]? = some (.arr (sto.length + 1) ys.length) ∧ s.env[4]? = some (.v (VI i)))) (.adopt _ 3 false rfl (by simp; omega)) ⟨0, [], none, [], ⟨by omega, rfl, by simp [nodesTs], .inl rfl⟩, rfl, ?_, ?_, ?_, ?_⟩ ?_
    all_goals first | rfl | (simp [cellsTs]; done) | skip
    all_goals
      rintro mm s ⟨i, ys, es, js, ⟨h1, rfl, h2, h3⟩, hL, hT, k1, k3, k4⟩
      obtain ⟨env, st0⟩ := s; obtain ⟨J, hJ⟩ := listJ hL; rw [show (List.range 28).map J = J 0 :: J 1 :: J 2 :: J 3 :: J 4 :: J 5 :: J 6 :: J 7 :: J 8 :: J 9 :: J 10 :: J 11 :: J 12 :: J 13 :: J 14 :: J 15 :: J 16 :: J 17 :: J 18 :: J 19 :: J 20 :: J 21 :: J 22 :: J 23 :: J 24 :: J 25 :: J 26 :: J 27 :: [] from by kernel_rfl] at hJ; replace k1 := Option.some.inj ((congrArg (·[1]?) hJ).symm.trans k1); replace k3 := Option.some.inj ((congrArg (·[3]?) hJ).symm.trans k3); replace k4 := Option.some.inj ((congrArg (·[4]?) hJ).symm.trans k4); rw [k1, k3, k4] at hJ; dsimp only at hJ hT; subst hJ; replace hT := hT.symm; subst hT; clear hL k1 k3 k4
      have hyl2 : ys.length ≤ 1 + tszs l := by
        rw [h2, List.length_append]
        have := nodesTs_len (l.take i)
        have := tszs_take_le l i
        simp only [List.length_cons, List.length_nil]
        omega
      by_cases hi : i < l.length
      · have hz := tsz_get hi
        have hnx := nodesTs_take hi
        have hnl := nodesT_len l[i]
        have hk := fun sto lo hlo => ih l[i] sto lo (by omega) (by omega) hlo
        have hz0 : nodesT l[i] = [] ∨ ¬ (nodesT l[i]).length = 0 := by cases nodesT l[i] <;> simp
        clear ih hyl
        generalize htt : l[i] = t at *
        generalize nodesT t = z at *
        obtain ⟨k2, n2, m2, l2⟩ := t
        rcases hz0 with rfl | hz0
        · repeat' (first | (refine go ⟨?_⟩) | (fail) | ((first | (refine bsp ?_ ?_) | (refine csp ?_ ?_)); all_goals (intro hb; (fail_if_success (cases hb; done)); (try simp only [decide_eq_true_eq, decide_eq_false_iff_not, beq_iff_eq, bne_iff_ne, ne_eq, beq_eq_false_iff_ne, bne_eq_false_iff_eq, Bool.not_eq_true', Bool.not_eq_false', Bool.and_eq_true, Bool.or_eq_true, Decidable.not_not] at hb); (try simp only [go_sem]))))
          rw [htt]
          repeat' (first | (refine go ⟨?_⟩) | (((refine call ?_); (refine ⟨_, hk _ _ (by first | omega | (simp; done) | (simp; omega)), ?_⟩); (try simp only [go_sem]))) | ((first | (refine bsp ?_ ?_) | (refine csp ?_ ?_)); all_goals (intro hb; (fail_if_success (cases hb; done)); (try simp only [decide_eq_true_eq, decide_eq_false_iff_not, beq_iff_eq, bne_iff_ne, ne_eq, beq_eq_false_iff_ne, bne_eq_false_iff_eq, Bool.not_eq_true', Bool.not_eq_false', Bool.and_eq_true, Bool.or_eq_true, Decidable.not_not] at hb); (try simp only [go_sem]))))
          refine ⟨_, _, ?_, .refl _, i + 1, ys, es, _, ⟨by omega, rfl, by rw [hnx, List.append_nil]; exact h2, h3⟩, rfl, rfl, ?_, ?_, ?_⟩
          · omega
          all_goals rfl
        · repeat' (first | (refine go ⟨?_⟩) | (fail) | ((first | (refine bsp ?_ ?_) | (refine csp ?_ ?_)); all_goals (intro hb; (fail_if_success (cases hb; done)); (try simp only [decide_eq_true_eq, decide_eq_false_iff_not, beq_iff_eq, bne_iff_ne, ne_eq, beq_eq_false_iff_ne, bne_eq_false_iff_eq, Bool.not_eq_true', Bool.not_eq_false', Bool.and_eq_true, Bool.or_eq_true, Decidable.not_not] at hb); (try simp only [go_sem]))))
          rw [htt]
          repeat' (first | (refine go ⟨?_⟩) | (((refine call ?_); (refine ⟨_, hk _ _ (by first | omega | (simp; done) | (simp; omega)), ?_⟩); (try simp only [go_sem]))) | ((first | (refine bsp ?_ ?_) | (refine csp ?_ ?_)); all_goals (intro hb; (fail_if_success (cases hb; done)); (try simp only [decide_eq_true_eq, decide_eq_false_iff_not, beq_iff_eq, bne_iff_ne, ne_eq, beq_eq_false_iff_ne, bne_eq_false_iff_eq, Bool.not_eq_true', Bool.not_eq_false', Bool.and_eq_true, Bool.or_eq_true, Decidable.not_not] at hb); (try simp only [go_sem]))))
          refine ⟨_, _, ?_, .refl _, i + 1, ys ++ z, some (25, 4), js, ⟨by omega, rfl, by rw [hnx, h2]; simp, .inr rfl⟩, rfl, ?_, ?_, ?_, ?_⟩
          · omega
          all_goals first | rfl | (simp [cellsTs_append]; done)
      · rw [List.take_of_length_le (by omega)] at h2
        repeat' (first | (refine go ⟨?_⟩) | (fail) | ((first | (refine bsp ?_ ?_) | (refine csp ?_ ?_)); all_goals (intro hb; (fail_if_success (cases hb; done)); (try simp only [decide_eq_true_eq, decide_eq_false_iff_not, beq_iff_eq, bne_iff_ne, ne_eq, beq_eq_false_iff_ne, bne_eq_false_iff_eq, Bool.not_eq_true', Bool.not_eq_false', Bool.and_eq_true, Bool.or_eq_true, Decidable.not_not] at hb); (try simp only [go_sem]))))
        refine ⟨by first | exact .inr rfl | exact .inl rfl, .inl ⟨[], _, (by dsimp only [Tryd.f48]; exact sv), ?_, by simp⟩⟩
        rw [h2]
        first | rfl | (simp [cellsTs, cellsT, Nat.add_comm]; done)
end Go.Proofs.YtomameefmobnlaaDoor
namespace Go.Proofs.YtomameefmobnlaaDoor
open Go Go.RowKit

attribute [local irreducible] EvOps EvC
attribute [local go_sem] List.getElem?_toArray getS List.flatten_cons List.flatten_nil List.contains_nil List.append_nil cellsTs
set_option linter.unusedSimpArgs false
set_option linter.unusedVariables false
set_option maxRecDepth 100000
set_option maxHeartbeats 4000000
theorem cellsTs_n {l : List Tr} {i : Nat} (h : i < l.length) : (cellsTs l)[i * 4 + 1]? = some (VI l[i].n) := by
  have h1 := cellsTs_at h
  have h2 := congrArg (fun x => x[1]?) h1
  simp only [List.getElem?_take_of_lt (show 1 < 4 from by decide), List.getElem?_drop] at h2
  rw [h2]
  cases l[i] with
  | mk a b c d => rfl
attribute [local go_sem] cellsTs_n
theorem upTo_any {t : Tr} (n : Nat) : (nodesT t).any (fun x => x.n == (n : Int)) = decide (∃ p ∈ varP t, p.1 = (n : Int)) := by
  rw [Bool.eq_iff_iff, List.any_eq_true, decide_eq_true_eq, ← nodes_any]
  simp only [beq_iff_eq]
theorem any_take {l : List Tr} {i : Nat} (h : i < l.length) (n : Int) : (l.take (i + 1)).any (fun x => x.n == n) = ((l.take i).any (fun x => x.n == n) || (l[i].n == n)) := by
  rw [List.take_succ_eq_append_getElem h, List.any_append]
  simp
theorem rVars_ev (t : Tr) (hs : tsz t < 1000000) (sto : Sto) (lo : Nat) (hlo : lo ≤ sto.length) : CallEv Tryd.prog tab B0 18 [.v (TV t)] sto lo (.v (LI (refVars t))) sto := by
  have hnd := fun sto lo hlo => nodes_ev (tsz t) t sto lo (Nat.le_refl _) hs hlo
  have hnl := nodesT_len t
  have hP : ∀ n : Nat, (nodesT t).any (fun x => x.n == (n : Int)) = decide (∃ p ∈ varP t, p.1 = (n : Int)) := upTo_any
  unfold refVars
  obtain ⟨P, hPd⟩ : ∃ P : Int → Bool, P = fun n => decide (∃ p ∈ varP t, p.1 = n) := ⟨_, rfl⟩
  rw [← hPd]
  replace hP : ∀ n : Nat, (nodesT t).any (fun x => x.n == (n : Int)) = P n := fun n => by rw [hP, hPd]
  clear hPd
  generalize nodesT t = ns at *
  have hnl2 : ns.length < 1000000 := by omega
  clear hnl
  obtain ⟨k, n, m, l⟩ := t
  refine CallEv.intro ⟨_, _, [], Tryd.func18, rfl, by decide, ?_⟩; simp only [go_sem, Tryd.ntmps18]
  repeat' (first | (refine go ⟨?_⟩) | (((refine call ?_); (refine ⟨_, hnd _ _ (by first | omega | (simp; done) | (simp; omega)), ?_⟩); (try simp only [go_sem]))) | ((first | (refine bsp ?_ ?_) | (refine csp ?_ ?_)); all_goals (intro hb; (fail_if_success (cases hb; done)); (try simp only [decide_eq_true_eq, decide_eq_false_iff_not, beq_iff_eq, bne_iff_ne, ne_eq, beq_eq_false_iff_ne, bne_eq_false_iff_eq, Bool.not_eq_true', Bool.not_eq_false', Bool.and_eq_true, Bool.or_eq_true, Decidable.not_not] at hb); (try simp only [go_sem]))))
  refine c_loop (fun mm s => ∃ (i : Nat) (ys : List Int) (es : Option (TypeId × Nat)) (js : List Ent), (i ≤ 64 ∧ mm = 64 - i ∧ ys = upTo P i ∧ (es = none ∨ es = some (3, 1))) ∧ (s.env.length = 36 ∧ s.sto = sto ++ .cells [.v (VI k), .v (VI n), .v (VI m), .v (.sl l.length (cellsTs l))] :: .arr es false ys.length (ys.map VI) :: js ∧ s.env[3]? = some (.v (.sl ns.length (cellsTs ns))) ∧ s.env[4]? = some (.arr (sto.length + 1) ys.length) ∧ s.env[5]? = some (.v (VI i)))) (.adopt _ 4 false rfl (by simp; omega)) ⟨0, [], none, [], ⟨by omega, rfl, rfl, .inl rfl⟩, rfl, ?_, ?_, ?_, ?_⟩ ?_
  all_goals first | rfl | (simp; done) | skip
  rintro mm s ⟨i, ys, es, js, ⟨h1, rfl, h2, h3⟩, hL, hT, k3, k4, k5⟩
  obtain ⟨env, st0⟩ := s; obtain ⟨J, hJ⟩ := listJ hL; rw [show (List.range 36).map J = J 0 :: J 1 :: J 2 :: J 3 :: J 4 :: J 5 :: J 6 :: J 7 :: J 8 :: J 9 :: J 10 :: J 11 :: J 12 :: J 13 :: J 14 :: J 15 :: J 16 :: J 17 :: J 18 :: J 19 :: J 20 :: J 21 :: J 22 :: J 23 :: J 24 :: J 25 :: J 26 :: J 27 :: J 28 :: J 29 :: J 30 :: J 31 :: J 32 :: J 33 :: J 34 :: J 35 :: [] from by kernel_rfl] at hJ; replace k3 := Option.some.inj ((congrArg (·[3]?) hJ).symm.trans k3); replace k4 := Option.some.inj ((congrArg (·[4]?) hJ).symm.trans k4); replace k5 := Option.some.inj ((congrArg (·[5]?) hJ).symm.trans k5); rw [k3, k4, k5] at hJ; dsimp only at hJ hT; subst hJ; replace hT := hT.symm; subst hT; clear hL k3 k4 k5
  have hyl : ys.length ≤ 64 := by rw [h2]; exact Nat.le_trans (upTo_len P i) h1
  by_cases hi : i < 64
  · have hPi := hP i
    have hnx := upTo_succ P i
    rw [← h2] at hnx
    clear hnd hP
    repeat' (first | (refine go ⟨?_⟩) | (fail) | ((first | (refine bsp ?_ ?_) | (refine csp ?_ ?_)); all_goals (intro hb; (fail_if_success (cases hb; done)); (try simp only [decide_eq_true_eq, decide_eq_false_iff_not, beq_iff_eq, bne_iff_ne, ne_eq, beq_eq_false_iff_ne, bne_eq_false_iff_eq, Bool.not_eq_true', Bool.not_eq_false', Bool.and_eq_true, Bool.or_eq_true, Decidable.not_not] at hb); (try simp only [go_sem]))))
    refine c_loop (fun mm s => ∃ (j : Nat) (b : Bool), (j ≤ ns.length ∧ mm = ns.length - j ∧ b = (ns.take j).any (fun x => x.n == (i : Int))) ∧ (s.env.length = 36 ∧ s.sto = sto ++ .cells [.v (VI k), .v (VI n), .v (VI m), .v (.sl l.length (cellsTs l))] :: .arr es false ys.length (ys.map VI) :: js ∧ s.env[3]? = some (.v (.sl ns.length (cellsTs ns))) ∧ s.env[4]? = some (.arr (sto.length + 1) ys.length) ∧ s.env[5]? = some (.v (VI i)) ∧ s.env[6]? = some (.v (.bool b)) ∧ s.env[7]? = some (.v (VI j)))) (.refl _) ⟨0, false, ⟨by omega, rfl, by simp⟩, rfl, rfl, ?_, ?_, ?_, ?_, ?_⟩ ?_
    all_goals first | rfl | skip
    rintro mm s ⟨j, b, ⟨q1, rfl, q2⟩, hL, hT, k3, k4, k5, k6, k7⟩
    obtain ⟨env, st0⟩ := s; obtain ⟨J, hJ⟩ := listJ hL; rw [show (List.range 36).map J = J 0 :: J 1 :: J 2 :: J 3 :: J 4 :: J 5 :: J 6 :: J 7 :: J 8 :: J 9 :: J 10 :: J 11 :: J 12 :: J 13 :: J 14 :: J 15 :: J 16 :: J 17 :: J 18 :: J 19 :: J 20 :: J 21 :: J 22 :: J 23 :: J 24 :: J 25 :: J 26 :: J 27 :: J 28 :: J 29 :: J 30 :: J 31 :: J 32 :: J 33 :: J 34 :: J 35 :: [] from by kernel_rfl] at hJ; replace k3 := Option.some.inj ((congrArg (·[3]?) hJ).symm.trans k3); replace k4 := Option.some.inj ((congrArg (·[4]?) hJ).symm.trans k4); replace k5 := Option.some.inj ((congrArg (·[5]?) hJ).symm.trans k5); replace k6 := Option.some.inj ((congrArg (·[6]?) hJ).symm.trans k6); replace k7 := Option.some.inj ((congrArg (·[7]?) hJ).symm.trans k7); rw [k3, k4, k5, k6, k7] at hJ; dsimp only at hJ hT; subst hJ; replace hT := hT.symm; subst hT; clear hL k3 k4 k5 k6 k7
    by_cases hj : j < ns.length
    · have hbx := any_take hj i
      rw [← q2] at hbx
      clear q2 hnx hPi h2
      by_cases c : ns[j].n = i
      · rw [beqT c, Bool.or_true] at hbx
        cases b with
        | true =>
          repeat' (first | (refine go ⟨?_⟩) | (fail) | ((first | (refine bsp ?_ ?_) | (refine csp ?_ ?_)); all_goals (intro hb; (fail_if_success (cases hb; done)); (try simp only [decide_eq_true_eq, decide_eq_false_iff_not, beq_iff_eq, bne_iff_ne, ne_eq, beq_eq_false_iff_ne, bne_eq_false_iff_eq, Bool.not_eq_true', Bool.not_eq_false', Bool.and_eq_true, Bool.or_eq_true, Decidable.not_not] at hb); (try simp only [go_sem]))))
          refine ⟨_, _, ?_, .refl _, j + 1, true, ⟨by omega, rfl, hbx.symm⟩, rfl, rfl, ?_, ?_, ?_, ?_, ?_⟩
          · omega
          all_goals rfl
        | false =>
          repeat' (first | (refine go ⟨?_⟩) | (fail) | ((first | (refine bsp ?_ ?_) | (refine csp ?_ ?_)); all_goals (intro hb; (fail_if_success (cases hb; done)); (try simp only [decide_eq_true_eq, decide_eq_false_iff_not, beq_iff_eq, bne_iff_ne, ne_eq, beq_eq_false_iff_ne, bne_eq_false_iff_eq, Bool.not_eq_true', Bool.not_eq_false', Bool.and_eq_true, Bool.or_eq_true, Decidable.not_not] at hb); (try simp only [go_sem]))))
          refine ⟨_, _, ?_, .refl _, j + 1, true, ⟨by omega, rfl, hbx.symm⟩, rfl, rfl, ?_, ?_, ?_, ?_, ?_⟩
          · omega
          all_goals rfl
      · rw [beqF c, Bool.or_false] at hbx
        cases b with
        | true =>
          repeat' (first | (refine go ⟨?_⟩) | (fail) | ((first | (refine bsp ?_ ?_) | (refine csp ?_ ?_)); all_goals (intro hb; (fail_if_success (cases hb; done)); (try simp only [decide_eq_true_eq, decide_eq_false_iff_not, beq_iff_eq, bne_iff_ne, ne_eq, beq_eq_false_iff_ne, bne_eq_false_iff_eq, Bool.not_eq_true', Bool.not_eq_false', Bool.and_eq_true, Bool.or_eq_true, Decidable.not_not] at hb); (try simp only [go_sem]))))
          refine ⟨_, _, ?_, .refl _, j + 1, true, ⟨by omega, rfl, hbx.symm⟩, rfl, rfl, ?_, ?_, ?_, ?_, ?_⟩
          · omega
          all_goals rfl
        | false =>
          repeat' (first | (refine go ⟨?_⟩) | (fail) | ((first | (refine bsp ?_ ?_) | (refine csp ?_ ?_)); all_goals (intro hb; (fail_if_success (cases hb; done)); (try simp only [decide_eq_true_eq, decide_eq_false_iff_not, beq_iff_eq, bne_iff_ne, ne_eq, beq_eq_false_iff_ne, bne_eq_false_iff_eq, Bool.not_eq_true', Bool.not_eq_false', Bool.and_eq_true, Bool.or_eq_true, Decidable.not_not] at hb); (try simp only [go_sem]))))
          refine ⟨_, _, ?_, .refl _, j + 1, false, ⟨by omega, rfl, hbx.symm⟩, rfl, rfl, ?_, ?_, ?_, ?_, ?_⟩
          · omega
          all_goals rfl
    · rw [List.take_of_length_le (by omega), hPi] at q2
      rw [← q2] at hnx
      clear hPi q2
      cases b with
      | true =>
        rw [if_pos rfl] at hnx
        repeat' (first | (refine go ⟨?_⟩) | (fail) | ((first | (refine bsp ?_ ?_) | (refine csp ?_ ?_)); all_goals (intro hb; (fail_if_success (cases hb; done)); (try simp only [decide_eq_true_eq, decide_eq_false_iff_not, beq_iff_eq, bne_iff_ne, ne_eq, beq_eq_false_iff_ne, bne_eq_false_iff_eq, Bool.not_eq_true', Bool.not_eq_false', Bool.and_eq_true, Bool.or_eq_true, Decidable.not_not] at hb); (try simp only [go_sem]))))
        refine ⟨_, _, ?_, .refl _, i + 1, ys ++ [(i : Int)], some (3, 1), js, ⟨by omega, rfl, hnx.symm, .inr rfl⟩, rfl, ?_, ?_, ?_, ?_⟩
        · omega
        all_goals first | rfl | (simp; done)
      | false =>
        rw [if_neg (by decide), List.append_nil] at hnx
        repeat' (first | (refine go ⟨?_⟩) | (fail) | ((first | (refine bsp ?_ ?_) | (refine csp ?_ ?_)); all_goals (intro hb; (fail_if_success (cases hb; done)); (try simp only [decide_eq_true_eq, decide_eq_false_iff_not, beq_iff_eq, bne_iff_ne, ne_eq, beq_eq_false_iff_ne, bne_eq_false_iff_eq, Bool.not_eq_true', Bool.not_eq_false', Bool.and_eq_true, Bool.or_eq_true, Decidable.not_not] at hb); (try simp only [go_sem]))))
        refine ⟨_, _, ?_, .refl _, i + 1, ys, es, js, ⟨by omega, rfl, hnx.symm, h3⟩, rfl, rfl, ?_, ?_, ?_⟩
        · omega
        all_goals rfl
  · obtain rfl : i = 64 := by omega
    repeat' (first | (refine go ⟨?_⟩) | (fail) | ((first | (refine bsp ?_ ?_) | (refine csp ?_ ?_)); all_goals (intro hb; (fail_if_success (cases hb; done)); (try simp only [decide_eq_true_eq, decide_eq_false_iff_not, beq_iff_eq, bne_iff_ne, ne_eq, beq_eq_false_iff_ne, bne_eq_false_iff_eq, Bool.not_eq_true', Bool.not_eq_false', Bool.and_eq_true, Bool.or_eq_true, Decidable.not_not] at hb); (try simp only [go_sem]))))
    refine ⟨by first | exact .inr rfl | exact .inl rfl, .inl ⟨[], _, (by dsimp only [Tryd.f18]; exact sv), ?_, by simp⟩⟩
    rw [h2]
end Go.Proofs.YtomameefmobnlaaDoor
namespace Go.Proofs.YtomameefmobnlaaDoor
open Go
mutual
theorem tsz_put (L : List Tr) (M : Nat) (hM : 1 ≤ M) (hL : ∀ x ∈ L, tsz x ≤ M) : ∀ t : Tr, tsz (putS L t) ≤ tsz t * M
  | .mk k n m l => by
    have hk := tsz_puts L M hM hL l
    rw [putS]
    by_cases k6 : k = 6
    · rw [if_pos k6]
      split
      · rename_i h
        have hd : tsz (L.getD n.toNat (.mk 0 0 0 [])) ≤ M := by
          by_cases hn : n.toNat < L.length
          · rw [show L.getD n.toNat (.mk 0 0 0 []) = L[n.toNat] from by simp [List.getD, hn]]
            exact hL _ (List.getElem_mem hn)
          · rw [show L.getD n.toNat (.mk 0 0 0 []) = .mk 0 0 0 [] from by simp [List.getD, List.getElem?_eq_none (Nat.le_of_not_lt hn)]]
            simp only [tsz, tszs]; omega
        refine Nat.le_trans hd ?_
        exact Nat.le_mul_of_pos_left M (tsz_pos _)
      · exact Nat.le_mul_of_pos_right _ hM
    · rw [if_neg k6, tsz, tsz, Nat.add_mul, Nat.one_mul]
      omega
theorem tsz_puts (L : List Tr) (M : Nat) (hM : 1 ≤ M) (hL : ∀ x ∈ L, tsz x ≤ M) : ∀ l : List Tr, tszs (putSs L l) ≤ tszs l * M
  | [] => by simp [putSs, tszs]
  | t :: l => by
    have h1 := tsz_put L M hM hL t
    have h2 := tsz_puts L M hM hL l
    rw [putSs, tszs, tszs, Nat.add_mul]
    omega
end
theorem tszs_le (M : Nat) : ∀ (L : List Tr), (∀ x ∈ L, tsz x ≤ M) → tszs L ≤ L.length * M
  | [], _ => by simp [tszs]
  | t :: L, h => by
    have h1 := h t (by simp)
    have h2 := tszs_le M L fun x hx => h x (by simp [hx])
    rw [tszs, List.length_cons, Nat.add_mul]
    omega
/-- What stands at a place of the changed values. -/
def pV (L : List Tr) (vals : List Int) (j : Nat) : Int := if j < L.length ∧ typeR (L.getD j (.mk 0 0 0 [])) = ((j / 2 : Nat) : Int) then evalS vals (L.getD j (.mk 0 0 0 [])) else vals.getD j 0
theorem put_value {k : Int} {t : Tr} (hw : Wt k t) (hok : VarOK t) (L : List Tr) (hL : ∀ x ∈ L, ∃ k, Wt k x ∧ VarOK x) (vals xs : List Int) (hx : ∀ j, j < 4 → xs.getD j 0 = pV L vals j) : evalS vals (putS L t) = evalS xs t := by
  refine eval_put hw L fun p hp => ?_
  obtain ⟨h0, h4, hm⟩ := hok p hp
  obtain ⟨n, m⟩ := p
  simp only at h0 h4 hm ⊢
  obtain ⟨j, rfl⟩ := Int.eq_ofNat_of_zero_le h0
  have hj : j < 4 := by omega
  have hxj := hx j hj
  have hm2 : m = ((j / 2 : Nat) : Int) := by omega
  rw [putS, if_pos rfl, Int.toNat_natCast]
  by_cases c : ((j : Int) < L.length ∧ validS (L.getD j (.mk 0 0 0 [])) = m)
  · rw [if_pos c]
    have hjl : j < L.length := by omega
    have hget : L.getD j (.mk 0 0 0 []) = L[j] := by simp [List.getD, hjl]
    obtain ⟨kk, hwt, hvo⟩ := hL L[j] (List.getElem_mem hjl)
    have hc2 := c.2
    rw [hget, valid_term hwt hvo] at hc2
    rw [pV, if_pos ⟨hjl, by rw [hget, hwt.type, hc2, hm2]⟩] at hxj
    have hr := eval_range hwt vals
    unfold valAt
    rw [Int.toNat_natCast, hxj, hget]
    by_cases h1 : m = 1
    · rw [if_pos h1]
      have := hr.2.2 (by omega)
      rcases this with h | h <;> rw [h] <;> decide
    · rw [if_neg h1, wrapS_id hr.1 hr.2.1]
  · rw [if_neg c]
    have e : evalS vals (.mk 6 (j : Int) m []) = valAt vals (j : Int) m := by simp [evalS]
    rw [e]
    have hxe : xs.getD j 0 = vals.getD j 0 := by
      rw [hxj, pV, if_neg]
      rintro ⟨hjl, ht⟩
      apply c
      have hget : L.getD j (.mk 0 0 0 []) = L[j] := by simp [List.getD, hjl]
      obtain ⟨kk, hwt, hvo⟩ := hL L[j] (List.getElem_mem hjl)
      rw [hget, hwt.type] at ht
      exact ⟨by omega, by rw [hget, valid_term hwt hvo, ht, hm2]⟩
    unfold valAt
    rw [Int.toNat_natCast, hxe]
theorem pV_step {L : List Tr} {vals xs : List Int} {i : Nat} (hx : ∀ j, j < 4 → xs.getD j 0 = if j < i then pV L vals j else vals.getD j 0) (hl : xs.length = 4) (hi : i < 4) : ∀ j, j < 4 → (xs.set i (pV L vals i)).getD j 0 = if j < i + 1 then pV L vals j else vals.getD j 0 := by
  intro j hj
  rcases Nat.decEq i j with e | e
  · have : (xs.set i (pV L vals i)).getD j 0 = xs.getD j 0 := by simp only [List.getD, List.getElem?_set_ne e]
    rw [this, hx j hj]
    by_cases h : j < i
    · rw [if_pos h, if_pos (by omega)]
    · rw [if_neg h, if_neg (by omega)]
  · subst e
    rw [if_pos (by omega)]
    simp only [List.getD, List.getElem?_set_self (show i < xs.length by omega), Option.getD_some]
theorem pV_skip {L : List Tr} {vals xs : List Int} {i : Nat} (hx : ∀ j, j < 4 → xs.getD j 0 = if j < i then pV L vals j else vals.getD j 0) (he : pV L vals i = vals.getD i 0) : ∀ j, j < 4 → xs.getD j 0 = if j < i + 1 then pV L vals j else vals.getD j 0 := by
  intro j hj
  rw [hx j hj]
  by_cases h : j < i
  · rw [if_pos h, if_pos (by omega)]
  · rw [if_neg h]
    by_cases h2 : j = i
    · subst h2; rw [if_pos (by omega), he]
    · rw [if_neg (by omega)]
theorem pV_end {L : List Tr} {vals xs : List Int} (hx : ∀ j, j < 4 → xs.getD j 0 = if j < L.length then pV L vals j else vals.getD j 0) : ∀ j, j < 4 → xs.getD j 0 = pV L vals j := by
  intro j hj
  rw [hx j hj]
  by_cases h : j < L.length
  · rw [if_pos h]
  · rw [if_neg h, pV, if_neg (fun hh => h hh.1)]
end Go.Proofs.YtomameefmobnlaaDoor
namespace Go.Proofs.YtomameefmobnlaaDoor
open Go
theorem shapedL_iff : ∀ (l : List Tr) (ws : List Int), shapedL l ws = true ↔ l.length = ws.length ∧ ∀ (i : Nat) (t : Tr) (w : Int), l[i]? = some t → ws[i]? = some w → shapedS t = true ∧ typeR t = w
  | [], [] => by simp [shapedL]
  | [], w :: ws => by simp [shapedL]
  | t :: l, [] => by simp [shapedL]
  | t :: l, w :: ws => by
    rw [shapedL, Bool.and_eq_true, Bool.and_eq_true, decide_eq_true_eq, shapedL_iff l ws]
    constructor
    · rintro ⟨⟨h1, h2⟩, h3, h4⟩
      refine ⟨by simp [h3], fun i t' w' q1 q2 => ?_⟩
      cases i with
      | zero => simp at q1 q2; subst q1 q2; exact ⟨h1, h2⟩
      | succ i => exact h4 i t' w' (by simpa using q1) (by simpa using q2)
    · rintro ⟨h1, h2⟩
      exact ⟨h2 0 t w rfl rfl, by simpa using h1, fun i t' w' q1 q2 => h2 (i + 1) t' w' (by simpa using q1) (by simpa using q2)⟩
theorem shapedL_len {l : List Tr} {ws : List Int} (h : ¬ l.length = ws.length) : shapedL l ws = false := by
  rw [← Bool.not_eq_true, shapedL_iff]
  exact fun hh => h hh.1
theorem shapedL_bad {l : List Tr} {ws : List Int} {i : Nat} (h1 : i < l.length) (h2 : i < ws.length) (h : ¬ (shapedS l[i] = true ∧ typeR l[i] = ws[i])) : shapedL l ws = false := by
  rw [← Bool.not_eq_true, shapedL_iff]
  exact fun hh => h (hh.2 i _ _ (List.getElem?_eq_getElem h1) (List.getElem?_eq_getElem h2))
theorem shapedL_all {l : List Tr} {ws : List Int} (h : l.length = ws.length) (ha : ∀ (j : Nat) (h1 : j < l.length) (h2 : j < ws.length), shapedS l[j] = true ∧ typeR l[j] = ws[j]) : shapedL l ws = true := by
  refine (shapedL_iff l ws).2 ⟨h, fun i t w q1 q2 => ?_⟩
  have h1 := (List.getElem?_eq_some_iff.1 q1).1
  have h2 := (List.getElem?_eq_some_iff.1 q2).1
  have := ha i h1 h2
  rw [List.getElem?_eq_getElem h1] at q1
  rw [List.getElem?_eq_getElem h2] at q2
  cases q1; cases q2
  exact this
/-- The node's own part, and what it wants of its kids. -/
def fineS (k n m : Int) (kids : List Tr) : Bool :=
  if k = 4 then decide (m = 0 ∧ -8 ≤ n ∧ n ≤ 7) else if k = 5 then decide (m = 0 ∧ 0 ≤ n ∧ n ≤ 1) else if k = 6 then decide (0 ≤ n ∧ n ≤ 63 ∧ 0 ≤ m ∧ m ≤ 1)
  else if k = 9 then decide (m = 0 ∧ 0 ≤ n ∧ n < 14) else if k = 10 then decide (m = 0 ∧ n = 0) else if k = 29 then decide (m = 0 ∧ n = 0 ∧ kids.length = 3) else false
def wantS (k n : Int) (kids : List Tr) : List Int :=
  if k = 9 then (if n = 12 ∨ n = 13 then [1, 1] else [0, 0]) else if k = 10 then [1]
  else if k = 29 then [1, typeR (kids.getD 1 (.mk 0 0 0 [])), typeR (kids.getD 1 (.mk 0 0 0 []))] else []
theorem shapedS_eq (k n m : Int) (kids : List Tr) : shapedS (.mk k n m kids) = (fineS k n m kids && shapedL kids (wantS k n kids)) := by
  rw [shapedS]
  unfold fineS wantS
  by_cases c1 : k = 4
  · subst c1; rfl
  by_cases c2 : k = 5
  · subst c2; rfl
  by_cases c3 : k = 6
  · subst c3; rfl
  by_cases c4 : k = 9
  · subst c4; rfl
  by_cases c5 : k = 10
  · subst c5; rfl
  by_cases c6 : k = 29
  · subst c6; rfl
  · simp only [c1, c2, c3, c4, c5, c6, if_false, Bool.false_and]
end Go.Proofs.YtomameefmobnlaaDoor
namespace Go.Proofs.YtomameefmobnlaaDoor
open Go
/-- The table of 64 numbers: 0, or one more than the type. -/
def tabT (mp : List (Int × Int)) : List Int := (List.range 64).map fun (i : Nat) => match aget mp (i : Int) with
  | some m => 1 + m
  | none => 0
theorem tabT_len (mp : List (Int × Int)) : (tabT mp).length = 64 := by simp [tabT]
theorem tabT_get (mp : List (Int × Int)) {i : Nat} (h : i < 64) : (tabT mp)[i]? = some (match aget mp (i : Int) with
  | some m => 1 + m
  | none => 0) := by
  unfold tabT
  rw [List.getElem?_map, List.getElem?_range h]; rfl
theorem tabT_set (mp : List (Int × Int)) {i : Nat} (h : i < 64) (m : Int) : (tabT mp).set i (1 + m) = tabT (aput mp i m) := by
  apply List.ext_getElem?
  intro j
  rcases Nat.lt_or_ge j 64 with hj | hj
  · rw [tabT_get _ hj, aget_put]
    rcases Nat.decEq i j with e | e
    · rw [List.getElem?_set_ne e, tabT_get _ hj, if_neg (by omega)]
    · subst e
      rw [List.getElem?_set_self (by rw [tabT_len]; exact h), if_pos rfl]
  · rw [List.getElem?_eq_none (by rw [List.length_set, tabT_len]; exact hj), List.getElem?_eq_none (by rw [tabT_len]; exact hj)]
/-- All types are 0 or 1. -/
def TyOK (mp : List (Int × Int)) : Prop := ∀ j m, aget mp j = some m → m = 0 ∨ m = 1
theorem TyOK.put {mp : List (Int × Int)} (h : TyOK mp) {n m : Int} (hm : m = 0 ∨ m = 1) : TyOK (aput mp n m) := by
  intro j m' h2
  rw [aget_put] at h2
  split at h2
  · cases h2; exact hm
  · exact h j m' h2
theorem clash_iff {mp : List (Int × Int)} (h : TyOK mp) {i : Nat} (hi : i < 64) {m x : Int} (hm : m = 0 ∨ m = 1) (hx : (tabT mp)[i]? = some x) : x = 2 - m ↔ (aget mp (i : Int)).any (· ≠ m) = true := by
  rw [tabT_get _ hi] at hx
  cases hg : aget mp (i : Int) with
  | none =>
    rw [hg] at hx
    simp only [Option.some.injEq] at hx
    simp only [Option.any_none, Bool.false_eq_true, iff_false]
    omega
  | some m' =>
    rw [hg] at hx
    have := h _ _ hg
    simp only [Option.some.injEq] at hx
    simp only [Option.any_some, decide_eq_true_eq]
    omega
theorem addAll_snoc {a : List (Int × Int)} {p : Int × Int} {mp mp1 : List (Int × Int)} (h : addAll a mp = some mp1) : addAll (a ++ [p]) mp = if (aget mp1 p.1).any (· ≠ p.2) then none else some (aput mp1 p.1 p.2) := by
  rw [addAll_append, h]
  obtain ⟨n, m⟩ := p
  simp only [Option.bind_some, addAll]
theorem addAll_stop {a b : List (Int × Int)} {mp : List (Int × Int)} (h : addAll a mp = none) : addAll (a ++ b) mp = none := by
  rw [addAll_append, h]; rfl
end Go.Proofs.YtomameefmobnlaaDoor
namespace Go.Proofs.YtomameefmobnlaaDoor
open Go Go.RowKit

attribute [local irreducible] EvOps EvC
theorem cellsTs_m {l : List Tr} {i : Nat} (h : i < l.length) : (cellsTs l)[i * 4 + 2]? = some (VI l[i].m) := by
  have h1 := cellsTs_at h
  have h2 := congrArg (fun x => x[2]?) h1
  simp only [List.getElem?_take_of_lt (show 2 < 4 from by decide), List.getElem?_drop] at h2
  rw [h2]
  cases l[i] with
  | mk a b c d => rfl
theorem cellsTs_n' {l : List Tr} {i : Nat} (h : i < l.length) : (cellsTs l)[i * 4 + 1]? = some (VI l[i].n) := cellsTs_n h
attribute [local go_sem] List.getElem?_toArray getS List.flatten_cons List.flatten_nil List.contains_nil List.append_nil List.contains_cons beq_self_eq_true Bool.true_or cellsTs_n' cellsTs_m mapSet
theorem figo {p q : Prop} (k : Later q) (h : Later q → p := by (intro k; (first | with_reducible (first | refine c_seq ?_ | refine c_block ?_ | refine c_region ?_ | refine c_skip ?_ | refine c_exit ?_ | refine c_ret ?_ | refine then_normal ?_ | refine then_exit ?_ | refine then_ret ?_ | refine block_normal ?_ | refine block_here ?_ | refine block_ret ?_ | refine block_far (by decide) ?_ | refine ops_nil ?_ | refine c_cond_t rfl ?_ | refine c_cond_f rfl ?_) | ((with_reducible apply ops_pure); rfl; (simp (disch := (first | omega | assumption | ((repeat' with_reducible apply And.intro) <;> first | omega | assumption | rfl | (apply Or.inl; rfl) | (apply Or.inr; first | rfl | trivial | fail) | fail) | fail)) only [go_sem, if_pos, if_neg, wrapI, wrapU, decide_eq_true, decide_eq_false, beqT, beqF, bneT, bneF, hnn, hmm, hx] <;> rfl); simp only [go_sem]) | ((with_reducible apply ops_pureF); rfl; (intro _; simp (disch := (first | omega | assumption | ((repeat' with_reducible apply And.intro) <;> first | omega | assumption | rfl | (apply Or.inl; rfl) | (apply Or.inr; first | rfl | trivial | fail) | fail) | fail)) only [go_sem, if_pos, if_neg, wrapI, wrapU, decide_eq_true, decide_eq_false, beqT, beqF, bneT, bneF, hnn, hmm, hx] <;> rfl); simp only [go_sem]) | ((with_reducible apply ops_pureD); kernel_rfl; rfl; (simp (disch := (first | omega | assumption | ((repeat' with_reducible apply And.intro) <;> first | omega | assumption | rfl | (apply Or.inl; rfl) | (apply Or.inr; first | rfl | trivial | fail) | fail) | fail)) only [go_sem, if_pos, if_neg, wrapI, wrapU, decide_eq_true, decide_eq_false, beqT, beqF, bneT, bneF, hnn, hmm, hx] <;> rfl); simp only [go_sem]) | ((with_reducible apply ops_skip); rfl; simp only [go_sem]) | ((with_reducible apply c_regionD); kernel_rfl) | ((with_reducible apply ops_eff); decide; rfl; (simp (disch := (first | omega | assumption | ((repeat' with_reducible apply And.intro) <;> first | omega | assumption | rfl | (apply Or.inl; rfl) | (apply Or.inr; first | rfl | trivial | fail) | fail) | fail)) only [go_sem, if_pos, if_neg, wrapI, wrapU, decide_eq_true, decide_eq_false, beqT, beqF, bneT, bneF, hnn, hmm, hx] <;> rfl); simp only [go_sem])); (repeat (first | with_reducible (first | refine c_seq ?_ | refine c_block ?_ | refine c_region ?_ | refine c_skip ?_ | refine c_exit ?_ | refine c_ret ?_ | refine then_normal ?_ | refine then_exit ?_ | refine then_ret ?_ | refine block_normal ?_ | refine block_here ?_ | refine block_ret ?_ | refine block_far (by decide) ?_ | refine ops_nil ?_ | refine c_cond_t rfl ?_ | refine c_cond_f rfl ?_) | ((with_reducible apply ops_pure); rfl; (simp (disch := (first | omega | assumption | ((repeat' with_reducible apply And.intro) <;> first | omega | assumption | rfl | (apply Or.inl; rfl) | (apply Or.inr; first | rfl | trivial | fail) | fail) | fail)) only [go_sem, if_pos, if_neg, wrapI, wrapU, decide_eq_true, decide_eq_false, beqT, beqF, bneT, bneF, hnn, hmm, hx] <;> rfl); simp only [go_sem]) | ((with_reducible apply ops_pureF); rfl; (intro _; simp (disch := (first | omega | assumption | ((repeat' with_reducible apply And.intro) <;> first | omega | assumption | rfl | (apply Or.inl; rfl) | (apply Or.inr; first | rfl | trivial | fail) | fail) | fail)) only [go_sem, if_pos, if_neg, wrapI, wrapU, decide_eq_true, decide_eq_false, beqT, beqF, bneT, bneF, hnn, hmm, hx] <;> rfl); simp only [go_sem]) | ((with_reducible apply ops_pureD); kernel_rfl; rfl; (simp (disch := (first | omega | assumption | ((repeat' with_reducible apply And.intro) <;> first | omega | assumption | rfl | (apply Or.inl; rfl) | (apply Or.inr; first | rfl | trivial | fail) | fail) | fail)) only [go_sem, if_pos, if_neg, wrapI, wrapU, decide_eq_true, decide_eq_false, beqT, beqF, bneT, bneF, hnn, hmm, hx] <;> rfl); simp only [go_sem]) | ((with_reducible apply ops_skip); rfl; simp only [go_sem]) | ((with_reducible apply c_regionD); kernel_rfl) | ((with_reducible apply ops_eff); decide; rfl; (simp (disch := (first | omega | assumption | ((repeat' with_reducible apply And.intro) <;> first | omega | assumption | rfl | (apply Or.inl; rfl) | (apply Or.inr; first | rfl | trivial | fail) | fail) | fail)) only [go_sem, if_pos, if_neg, wrapI, wrapU, decide_eq_true, decide_eq_false, beqT, beqF, bneT, bneF, hnn, hmm, hx] <;> rfl); simp only [go_sem]))); exact k.get)) : p := h k
theorem figoX {p q : Prop} (k : Later q) (h : Later q → p := by (intro k; (first | with_reducible (first | refine c_seq ?_ | refine c_block ?_ | refine c_skip ?_ | refine c_exit ?_ | refine c_ret ?_ | refine then_normal ?_ | refine then_exit ?_ | refine then_ret ?_ | refine block_normal ?_ | refine block_here ?_ | refine block_ret ?_ | refine block_far (by decide) ?_ | refine ops_nil ?_ | refine c_cond_t rfl ?_ | refine c_cond_f rfl ?_) | ((with_reducible apply ops_pure); rfl; (simp (disch := (first | omega | assumption | ((repeat' with_reducible apply And.intro) <;> first | omega | assumption | rfl | (apply Or.inl; rfl) | (apply Or.inr; first | rfl | trivial | fail) | fail) | fail)) only [go_sem, if_pos, if_neg, wrapI, wrapU, decide_eq_true, decide_eq_false, beqT, beqF, bneT, bneF, hnn, hmm, hx] <;> rfl); simp only [go_sem]) | ((with_reducible apply ops_pureF); rfl; (intro _; simp (disch := (first | omega | assumption | ((repeat' with_reducible apply And.intro) <;> first | omega | assumption | rfl | (apply Or.inl; rfl) | (apply Or.inr; first | rfl | trivial | fail) | fail) | fail)) only [go_sem, if_pos, if_neg, wrapI, wrapU, decide_eq_true, decide_eq_false, beqT, beqF, bneT, bneF, hnn, hmm, hx] <;> rfl); simp only [go_sem]) | ((with_reducible apply ops_pureD); kernel_rfl; rfl; (simp (disch := (first | omega | assumption | ((repeat' with_reducible apply And.intro) <;> first | omega | assumption | rfl | (apply Or.inl; rfl) | (apply Or.inr; first | rfl | trivial | fail) | fail) | fail)) only [go_sem, if_pos, if_neg, wrapI, wrapU, decide_eq_true, decide_eq_false, beqT, beqF, bneT, bneF, hnn, hmm, hx] <;> rfl); simp only [go_sem]) | ((with_reducible apply ops_skip); rfl; simp only [go_sem]) | ((with_reducible apply c_regionD); kernel_rfl) | ((with_reducible apply ops_eff); decide; rfl; (simp (disch := (first | omega | assumption | ((repeat' with_reducible apply And.intro) <;> first | omega | assumption | rfl | (apply Or.inl; rfl) | (apply Or.inr; first | rfl | trivial | fail) | fail) | fail)) only [go_sem, if_pos, if_neg, wrapI, wrapU, decide_eq_true, decide_eq_false, beqT, beqF, bneT, bneF, hnn, hmm, hx] <;> rfl); simp only [go_sem])); (repeat (first | with_reducible (first | refine c_seq ?_ | refine c_block ?_ | refine c_skip ?_ | refine c_exit ?_ | refine c_ret ?_ | refine then_normal ?_ | refine then_exit ?_ | refine then_ret ?_ | refine block_normal ?_ | refine block_here ?_ | refine block_ret ?_ | refine block_far (by decide) ?_ | refine ops_nil ?_ | refine c_cond_t rfl ?_ | refine c_cond_f rfl ?_) | ((with_reducible apply ops_pure); rfl; (simp (disch := (first | omega | assumption | ((repeat' with_reducible apply And.intro) <;> first | omega | assumption | rfl | (apply Or.inl; rfl) | (apply Or.inr; first | rfl | trivial | fail) | fail) | fail)) only [go_sem, if_pos, if_neg, wrapI, wrapU, decide_eq_true, decide_eq_false, beqT, beqF, bneT, bneF, hnn, hmm, hx] <;> rfl); simp only [go_sem]) | ((with_reducible apply ops_pureF); rfl; (intro _; simp (disch := (first | omega | assumption | ((repeat' with_reducible apply And.intro) <;> first | omega | assumption | rfl | (apply Or.inl; rfl) | (apply Or.inr; first | rfl | trivial | fail) | fail) | fail)) only [go_sem, if_pos, if_neg, wrapI, wrapU, decide_eq_true, decide_eq_false, beqT, beqF, bneT, bneF, hnn, hmm, hx] <;> rfl); simp only [go_sem]) | ((with_reducible apply ops_pureD); kernel_rfl; rfl; (simp (disch := (first | omega | assumption | ((repeat' with_reducible apply And.intro) <;> first | omega | assumption | rfl | (apply Or.inl; rfl) | (apply Or.inr; first | rfl | trivial | fail) | fail) | fail)) only [go_sem, if_pos, if_neg, wrapI, wrapU, decide_eq_true, decide_eq_false, beqT, beqF, bneT, bneF, hnn, hmm, hx] <;> rfl); simp only [go_sem]) | ((with_reducible apply ops_skip); rfl; simp only [go_sem]) | ((with_reducible apply c_regionD); kernel_rfl) | ((with_reducible apply ops_eff); decide; rfl; (simp (disch := (first | omega | assumption | ((repeat' with_reducible apply And.intro) <;> first | omega | assumption | rfl | (apply Or.inl; rfl) | (apply Or.inr; first | rfl | trivial | fail) | fail) | fail)) only [go_sem, if_pos, if_neg, wrapI, wrapU, decide_eq_true, decide_eq_false, beqT, beqF, bneT, bneF, hnn, hmm, hx] <;> rfl); simp only [go_sem]))); exact k.get)) : p := h k
theorem fisv {p : Prop} (h : p := by simp (disch := (first | omega | assumption | ((repeat' with_reducible apply And.intro) <;> first | omega | assumption | rfl | (apply Or.inl; rfl) | (apply Or.inr; first | rfl | trivial | fail) | fail) | fail)) only [go_sem, if_pos, if_neg, wrapI, wrapU, decide_eq_true, decide_eq_false, beqT, beqF, bneT, bneF, hnn, hmm, hx] <;> rfl) : p := h
theorem ficall {T : Tab} {X : CallP} {n0 lo : Nat} {wt : List Tmp} {draw : Bool} {ops : Array Oper} {Q : St → Prop} {rest : List Oper} {o : Oper} {env : List D} {sto : Sto} {f : FuncId} {args : List D} (k : ∃ r, X f args sto (if draw then sto.length else lo) r sto ∧ EvOps T X n0 lo wt draw ops Q rest (St.put ⟨env, sto⟩ o.dst r)) (hg : guardD ops o env = some true := by rfl) (h : evCallee (opd env) sto o = some (f, args) := by simp (disch := (first | omega | assumption | ((repeat' with_reducible apply And.intro) <;> first | omega | assumption | rfl | (apply Or.inl; rfl) | (apply Or.inr; first | rfl | trivial | fail) | fail) | fail)) only [go_sem, if_pos, if_neg, wrapI, wrapU, decide_eq_true, decide_eq_false, beqT, beqF, bneT, bneF, hnn, hmm, hx] <;> rfl) : EvOps T X n0 lo wt draw ops Q (o :: rest) ⟨env, sto⟩ := k.elim fun _ k => ops_call hg h k.1 k.2
set_option linter.unusedSimpArgs false
set_option linter.unusedVariables false
set_option maxRecDepth 100000
set_option maxHeartbeats 8000000
theorem fit_ev (t : Tr) (hs : tsz t < 1000000) (hv : ∀ p ∈ varP t, (0 ≤ p.1 ∧ p.1 ≤ 63) ∧ (p.2 = 0 ∨ p.2 = 1)) (sto : Sto) (lo : Nat) (hlo : lo ≤ sto.length) : CallEv Tryd.prog tab B0 44 [.v (.sl 1 (cellsTs [t]))] sto lo (.v (.bool (fitS t))) sto := by
  have hnd := fun sto lo hlo => nodes_ev (tsz t) t sto lo (Nat.le_refl _) hs hlo
  have hnl := nodesT_len t
  have hvp := nodesT_varP t
  unfold fitS
  generalize nodesT t = ns at *
  rw [← hvp] at hv
  rw [← hvp]
  have hnl2 : ns.length < 1000000 := by omega
  clear hnl hvp hs
  have hg : ∀ (i : Nat) (h : i < ns.length), (0 ≤ ns[i].n ∧ ns[i].n ≤ 63) ∧ (ns[i].m = 0 ∨ ns[i].m = 1) := fun i h => hv _ (List.mem_map.2 ⟨_, List.getElem_mem h, rfl⟩)
  clear hv
  obtain ⟨k0, n0, m0, l0⟩ := t
  have hnn : True := trivial
  have hmm : True := trivial
  have hx : True := trivial
  refine CallEv.intro ⟨_, _, [8], Tryd.func44, rfl, by decide, ?_⟩; simp only [go_sem, Tryd.ntmps44, cellsTs]
  repeat' (first | (refine figo ⟨?_⟩) | (fail) | ((first | (refine bsp ?_ ?_) | (refine csp ?_ ?_)); all_goals (intro hb; (fail_if_success (cases hb; done)); (try simp only [decide_eq_true_eq, decide_eq_false_iff_not, beq_iff_eq, bne_iff_ne, ne_eq, beq_eq_false_iff_ne, bne_eq_false_iff_eq, Bool.not_eq_true', Bool.not_eq_false', Bool.and_eq_true, Bool.or_eq_true, Decidable.not_not] at hb); (try simp only [go_sem]))))
  refine c_loop (fun mm s => ∃ (i : Nat) (xs : List Int) (js : List Ent), (mm = 1 - i ∧ (i = 0 ∧ xs = tabT [] ∨ i = 1 ∧ (addAll (ns.map fun t => (t.n, t.m)) []).isSome = true)) ∧ (s.env.length = 51 ∧ s.sto = sto ++ .arr (some (3, 1)) true 64 (xs.map VI) :: js ∧ s.env[0]? = some (.v (.sl 1 [VI k0, VI n0, VI m0, .sl l0.length (cellsTs l0)])) ∧ s.env[3]? = some (.arr sto.length 64) ∧ s.env[4]? = some (.v (VI i)))) (.refl _) ⟨0, tabT [], [], ⟨rfl, .inl ⟨rfl, rfl⟩⟩, rfl, rfl, ?_, ?_, ?_⟩ ?_
  all_goals first | rfl | skip
  rintro mm s ⟨i, xs, js, ⟨rfl, hc⟩, hL, hT, k0, k3, k4⟩
  obtain ⟨env, st0⟩ := s; obtain ⟨J, hJ⟩ := listJ hL; rw [show (List.range 51).map J = J 0 :: J 1 :: J 2 :: J 3 :: J 4 :: J 5 :: J 6 :: J 7 :: J 8 :: J 9 :: J 10 :: J 11 :: J 12 :: J 13 :: J 14 :: J 15 :: J 16 :: J 17 :: J 18 :: J 19 :: J 20 :: J 21 :: J 22 :: J 23 :: J 24 :: J 25 :: J 26 :: J 27 :: J 28 :: J 29 :: J 30 :: J 31 :: J 32 :: J 33 :: J 34 :: J 35 :: J 36 :: J 37 :: J 38 :: J 39 :: J 40 :: J 41 :: J 42 :: J 43 :: J 44 :: J 45 :: J 46 :: J 47 :: J 48 :: J 49 :: J 50 :: [] from by kernel_rfl] at hJ; replace k0 := Option.some.inj ((congrArg (·[0]?) hJ).symm.trans k0); replace k3 := Option.some.inj ((congrArg (·[3]?) hJ).symm.trans k3); replace k4 := Option.some.inj ((congrArg (·[4]?) hJ).symm.trans k4); rw [k0, k3, k4] at hJ; dsimp only at hJ hT; subst hJ; replace hT := hT.symm; subst hT; clear hL k0 k3 k4
  rcases hc with ⟨rfl, rfl⟩ | ⟨rfl, hc⟩
  · repeat' (first | (refine figo ⟨?_⟩) | (((refine ficall ?_); (refine ⟨_, hnd _ _ (by first | omega | (simp; done) | (simp; omega)), ?_⟩); (try simp only [go_sem]))) | ((first | (refine bsp ?_ ?_) | (refine csp ?_ ?_)); all_goals (intro hb; (fail_if_success (cases hb; done)); (try simp only [decide_eq_true_eq, decide_eq_false_iff_not, beq_iff_eq, bne_iff_ne, ne_eq, beq_eq_false_iff_ne, bne_eq_false_iff_eq, Bool.not_eq_true', Bool.not_eq_false', Bool.and_eq_true, Bool.or_eq_true, Decidable.not_not] at hb); (try simp only [go_sem]))))
    refine c_loop (fun mm s => ∃ (j : Nat) (mp : List (Int × Int)) (js : List Ent), (j ≤ ns.length ∧ mm = ns.length - j ∧ addAll ((ns.map fun t => (t.n, t.m)).take j) [] = some mp ∧ TyOK mp) ∧ (s.env.length = 51 ∧ s.sto = sto ++ .arr (some (3, 1)) true 64 ((tabT mp).map VI) :: js ∧ s.env[0]? = some (.v (.sl 1 [VI k0, VI n0, VI m0, .sl l0.length (cellsTs l0)])) ∧ s.env[3]? = some (.arr sto.length 64) ∧ s.env[4]? = some (.v (VI 0)) ∧ s.env[5]? = some (.v (.sl ns.length (cellsTs ns))) ∧ s.env[6]? = some (.v (VI j)))) (.refl _) ⟨0, [], js, ⟨by omega, rfl, by simp [addAll], fun j m h => by simp [aget] at h⟩, rfl, rfl, ?_, ?_, ?_, ?_, ?_⟩ ?_
    all_goals first | rfl | skip
    rintro mm s ⟨j, mp, js, ⟨q1, rfl, q2, q3⟩, hL, hT, k0, k3, k4, k5, k6⟩
    obtain ⟨env, st0⟩ := s; obtain ⟨J, hJ⟩ := listJ hL; rw [show (List.range 51).map J = J 0 :: J 1 :: J 2 :: J 3 :: J 4 :: J 5 :: J 6 :: J 7 :: J 8 :: J 9 :: J 10 :: J 11 :: J 12 :: J 13 :: J 14 :: J 15 :: J 16 :: J 17 :: J 18 :: J 19 :: J 20 :: J 21 :: J 22 :: J 23 :: J 24 :: J 25 :: J 26 :: J 27 :: J 28 :: J 29 :: J 30 :: J 31 :: J 32 :: J 33 :: J 34 :: J 35 :: J 36 :: J 37 :: J 38 :: J 39 :: J 40 :: J 41 :: J 42 :: J 43 :: J 44 :: J 45 :: J 46 :: J 47 :: J 48 :: J 49 :: J 50 :: [] from by kernel_rfl] at hJ; replace k0 := Option.some.inj ((congrArg (·[0]?) hJ).symm.trans k0); replace k3 := Option.some.inj ((congrArg (·[3]?) hJ).symm.trans k3); replace k4 := Option.some.inj ((congrArg (·[4]?) hJ).symm.trans k4); replace k5 := Option.some.inj ((congrArg (·[5]?) hJ).symm.trans k5); replace k6 := Option.some.inj ((congrArg (·[6]?) hJ).symm.trans k6); rw [k0, k3, k4, k5, k6] at hJ; dsimp only at hJ hT; subst hJ; replace hT := hT.symm; subst hT; clear hL k0 k3 k4 k5 k6
    by_cases hj : j < ns.length
    · clear hnn hmm hx hnd
      obtain ⟨⟨g1, g2⟩, g3⟩ := hg j hj
      clear hg
      generalize hnn : ns[j].n = nn at *
      generalize hmm : ns[j].m = m at *
      obtain ⟨q, rfl⟩ := Int.eq_ofNat_of_zero_le g1
      have hq : q < 64 := by omega
      have hlen := tabT_len mp
      obtain ⟨x, hx⟩ : ∃ x, (tabT mp)[q]? = some x := ⟨_, List.getElem?_eq_getElem (by omega)⟩
      have hcl := clash_iff q3 hq g3 hx
      have htk : (ns.map fun t => (t.n, t.m)).take (j + 1) = (ns.map fun t => (t.n, t.m)).take j ++ [((q : Int), m)] := by
        rw [List.take_succ_eq_append_getElem (by simpa using hj), List.getElem_map, hnn, hmm]
      have hsn := addAll_snoc (p := ((q : Int), m)) q2
      rw [← htk] at hsn
      have hxb : x = 0 ∨ x = 1 ∨ x = 2 := by
        rw [tabT_get mp hq] at hx
        cases hgg : aget mp (q : Int) with
        | none => rw [hgg] at hx; simp only [Option.some.injEq] at hx; omega
        | some m' => rw [hgg] at hx; have := q3 _ _ hgg; simp only [Option.some.injEq] at hx; omega
      have hset := tabT_set mp hq m
      by_cases c : x = 2 - m
      · have hres : (addAll (ns.map fun t => (t.n, t.m)) []).isSome = false := by
          rw [if_pos (hcl.1 c)] at hsn
          rw [← List.take_append_drop (j + 1) (ns.map fun t => (t.n, t.m)), addAll_stop hsn]; rfl
        rw [hres]
        clear hcl hsn hset htk q2 q3 hres
        repeat' (first | (refine figo ⟨?_⟩) | (fail) | ((first | (refine bsp ?_ ?_) | (refine csp ?_ ?_)); all_goals (intro hb; (fail_if_success (cases hb; done)); (try simp only [decide_eq_true_eq, decide_eq_false_iff_not, beq_iff_eq, bne_iff_ne, ne_eq, beq_eq_false_iff_ne, bne_eq_false_iff_eq, Bool.not_eq_true', Bool.not_eq_false', Bool.and_eq_true, Bool.or_eq_true, Decidable.not_not] at hb); (try simp only [go_sem]))))
        refine ⟨by first | exact .inr rfl | exact .inl rfl, .inl ⟨[], _, (by dsimp only [Tryd.f44]; exact fisv), ?_, by simp⟩⟩
        rfl
      · rw [if_neg (fun h => c (hcl.2 h))] at hsn
        have hty := q3.put (n := (q : Int)) g3
        clear hcl htk q2 q3
        repeat' (first | (refine figo ⟨?_⟩) | (fail) | ((first | (refine bsp ?_ ?_) | (refine csp ?_ ?_)); all_goals (intro hb; (fail_if_success (cases hb; done)); (try simp only [decide_eq_true_eq, decide_eq_false_iff_not, beq_iff_eq, bne_iff_ne, ne_eq, beq_eq_false_iff_ne, bne_eq_false_iff_eq, Bool.not_eq_true', Bool.not_eq_false', Bool.and_eq_true, Bool.or_eq_true, Decidable.not_not] at hb); (try simp only [go_sem]))))
        refine ⟨_, _, ?_, .refl _, j + 1, aput mp q m, js, ⟨by omega, rfl, hsn, hty⟩, rfl, ?_, ?_, ?_, ?_, ?_, ?_⟩
        · omega
        all_goals first | rfl | (rw [← hset])
    · rw [List.take_of_length_le (by simp; omega)] at q2
      have hres : (addAll (ns.map fun t => (t.n, t.m)) []).isSome = true := by rw [q2]; rfl
      clear hg
      repeat' (first | (refine figo ⟨?_⟩) | (fail) | ((first | (refine bsp ?_ ?_) | (refine csp ?_ ?_)); all_goals (intro hb; (fail_if_success (cases hb; done)); (try simp only [decide_eq_true_eq, decide_eq_false_iff_not, beq_iff_eq, bne_iff_ne, ne_eq, beq_eq_false_iff_ne, bne_eq_false_iff_eq, Bool.not_eq_true', Bool.not_eq_false', Bool.and_eq_true, Bool.or_eq_true, Decidable.not_not] at hb); (try simp only [go_sem]))))
      refine ⟨_, _, ?_, .refl _, 1, tabT mp, js, ⟨rfl, .inr ⟨rfl, hres⟩⟩, rfl, rfl, ?_, ?_, ?_⟩
      · omega
      all_goals rfl
  · rw [hc]
    repeat' (first | (refine figo ⟨?_⟩) | (fail) | ((first | (refine bsp ?_ ?_) | (refine csp ?_ ?_)); all_goals (intro hb; (fail_if_success (cases hb; done)); (try simp only [decide_eq_true_eq, decide_eq_false_iff_not, beq_iff_eq, bne_iff_ne, ne_eq, beq_eq_false_iff_ne, bne_eq_false_iff_eq, Bool.not_eq_true', Bool.not_eq_false', Bool.and_eq_true, Bool.or_eq_true, Decidable.not_not] at hb); (try simp only [go_sem]))))
    refine ⟨by first | exact .inr rfl | exact .inl rfl, .inl ⟨[], _, (by dsimp only [Tryd.f44]; exact fisv), ?_, by simp⟩⟩
    rfl
end Go.Proofs.YtomameefmobnlaaDoor
