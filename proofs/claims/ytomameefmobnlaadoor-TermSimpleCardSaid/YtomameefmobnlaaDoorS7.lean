/-
  Terms: the reference's Term. No condition of its own. Terms: the package's constant, is, same. No condition of its own. Trees: the reference's Size. No condition of its own. Trees: the package's Size; word.Truth. No condition of its own. Terms: the package's types: the state behind the kids, and the rest of the code. No condition of its own. Terms: the package's Simplify, up to its kids. No condition of its own. Terms: the package's Simplify, behind its kids: constants, operations, not. No condition of its own.
-/
import Derived.Test.YtomameefmobnlaaDoorS6
import Derived.Test.YtomameefmobnlaaDoorS3
import Derived.Test.YtomameefmobnlaaDoorS2
namespace Go.Proofs.YtomameefmobnlaaDoor
open Go Go.RowKit

attribute [local irreducible] EvOps EvC
attribute [local go_sem] List.getElem?_toArray List.flatten_cons List.flatten_nil List.contains_nil cellsTs List.append_nil
set_option linter.unusedSimpArgs false
set_option linter.unusedVariables false
set_option maxRecDepth 100000
set_option maxHeartbeats 4000000
/-- The numbers of which a term is made: a list that is not too long, of numbers. -/
structure NumL (l : List Int) : Prop where
  len : l.length < 9223372036854775808
  big : ∀ x ∈ l, Big x
theorem term_ev (l : List Int) (kind : Int) (hl : NumL l) (hk : Big kind) (sto : Sto) (lo : Nat) (hlo : lo ≤ sto.length) : CallEv Tryd.prog tab B0 9 [.v (LI l), .v (VI kind)] sto lo (.v (TV (termS l kind))) sto := by
  have har := fun sto lo hlo => around_ev kind 2 hk (by omega) (by omega) sto lo hlo
  have hb := aroundS_bound (n := kind) (most := 2) (by omega)
  have hm := fun sto' h5 hlid h6 => make_ev l hl.len hl.big (sto.length + 1) 4 (aroundS kind 2) 0 14 4 sto' lo (by omega) rfl (by omega) (by omega) (by decide) (by decide) (by omega) h5 hlid h6
  unfold termS
  generalize aroundS kind 2 = k at *
  generalize makeS l 4 k 0 14 = c at *
  obtain ⟨⟨k1, n1, q1, l1⟩, a1, g1⟩ := c
  refine CallEv.intro ⟨_, _, [], Tryd.func9, rfl, by decide, ?_⟩; simp only [go_sem, Tryd.ntmps9]
  (try refine go ⟨?_⟩)
  ((refine call ?_); (refine ⟨_, har _ _ (by first | omega | (simp; done) | (simp; omega)), ?_⟩); (try simp only [go_sem]))
  (try refine go ⟨?_⟩)
  (with_reducible apply ops_callW); rfl; (simp (disch := (first | omega | assumption | ((repeat' with_reducible apply And.intro) <;> first | omega | assumption | rfl | (apply Or.inl; rfl) | (apply Or.inr; first | rfl | trivial | fail) | fail) | fail)) only [go_sem, if_pos, if_neg, wrapI, wrapU, decide_eq_true, decide_eq_false, beqT, beqF, bneT, bneF] <;> rfl); (exact hm _ (by simp (disch := (first | omega | assumption | ((repeat' with_reducible apply And.intro) <;> first | omega | assumption | rfl | (apply Or.inl; rfl) | (apply Or.inr; first | rfl | trivial | fail) | fail) | fail)) only [go_sem, if_pos, if_neg, wrapI, wrapU, decide_eq_true, decide_eq_false, beqT, beqF, bneT, bneF]) (by omega) (by first | omega | (simp; done) | (simp; omega)))
  · intro i ds h1 h2 h3
    left
    rw [List.set_append_right _ _ (by omega)] at h3
    rwa [List.getElem?_append_left (by omega)] at h3 ⊢
  (try simp (disch := (first | omega | assumption | ((repeat' with_reducible apply And.intro) <;> first | omega | assumption | rfl | (apply Or.inl; rfl) | (apply Or.inr; first | rfl | trivial | fail) | fail) | fail)) only [go_sem, if_pos, if_neg, wrapI, wrapU, decide_eq_true, decide_eq_false, beqT, beqF, bneT, bneF])
  (try refine go ⟨?_⟩)
  refine ⟨by first | exact .inr rfl | exact .inl rfl, .inl ⟨[], _, (by dsimp only [Tryd.f9]; exact sv), ?_, ?_⟩⟩
  · rfl
  · simp
end Go.Proofs.YtomameefmobnlaaDoor
namespace Go.Proofs.YtomameefmobnlaaDoor
open Go Go.RowKit

attribute [local irreducible] EvOps EvC
attribute [local go_sem] List.getElem?_toArray getS List.flatten_cons List.flatten_nil List.contains_nil List.append_nil
set_option linter.unusedSimpArgs false
set_option linter.unusedVariables false
set_option maxRecDepth 100000
set_option maxHeartbeats 4000000
def isC (t : Tr) : Bool := t.k == 4 || t.k == 5
theorem constant_ev (t : Tr) (sto : Sto) (lo : Nat) (hlo : lo ≤ sto.length) : CallEv Tryd.prog tab B0 59 [.v (TV t)] sto lo (.v (.bool (isC t))) sto := by
  obtain ⟨k, n, m, l⟩ := t
  rw [show isC (.mk k n m l) = (k == 4 || k == 5) from rfl]
  by_cases c4 : k = 4
  · subst c4
    refine CallEv.intro ⟨_, _, [], Tryd.func59, rfl, by decide, ?_⟩; simp only [go_sem, Tryd.ntmps59]
    repeat' (first | (refine go ⟨?_⟩) | (fail) | ((first | (refine bsp ?_ ?_) | (refine csp ?_ ?_)); all_goals (intro hb; (fail_if_success (cases hb; done)); (try simp only [decide_eq_true_eq, decide_eq_false_iff_not, beq_iff_eq, bne_iff_ne, ne_eq, beq_eq_false_iff_ne, bne_eq_false_iff_eq, Bool.not_eq_true', Bool.not_eq_false', Bool.and_eq_true, Bool.or_eq_true, Decidable.not_not] at hb); (try simp only [go_sem]))))
    refine ⟨by first | exact .inr rfl | exact .inl rfl, .inl ⟨[], _, (by dsimp only [Tryd.f59]; exact sv), ?_, by simp⟩⟩
    rfl
  by_cases c5 : k = 5
  · subst c5
    refine CallEv.intro ⟨_, _, [], Tryd.func59, rfl, by decide, ?_⟩; simp only [go_sem, Tryd.ntmps59]
    repeat' (first | (refine go ⟨?_⟩) | (fail) | ((first | (refine bsp ?_ ?_) | (refine csp ?_ ?_)); all_goals (intro hb; (fail_if_success (cases hb; done)); (try simp only [decide_eq_true_eq, decide_eq_false_iff_not, beq_iff_eq, bne_iff_ne, ne_eq, beq_eq_false_iff_ne, bne_eq_false_iff_eq, Bool.not_eq_true', Bool.not_eq_false', Bool.and_eq_true, Bool.or_eq_true, Decidable.not_not] at hb); (try simp only [go_sem]))))
    refine ⟨by first | exact .inr rfl | exact .inl rfl, .inl ⟨[], _, (by dsimp only [Tryd.f59]; exact sv), ?_, by simp⟩⟩
    rfl
  · rw [beqF c4, beqF c5]
    refine CallEv.intro ⟨_, _, [], Tryd.func59, rfl, by decide, ?_⟩; simp only [go_sem, Tryd.ntmps59]
    repeat' (first | (refine go ⟨?_⟩) | (fail) | ((first | (refine bsp ?_ ?_) | (refine csp ?_ ?_)); all_goals (intro hb; (fail_if_success (cases hb; done)); (try simp only [decide_eq_true_eq, decide_eq_false_iff_not, beq_iff_eq, bne_iff_ne, ne_eq, beq_eq_false_iff_ne, bne_eq_false_iff_eq, Bool.not_eq_true', Bool.not_eq_false', Bool.and_eq_true, Bool.or_eq_true, Decidable.not_not] at hb); (try simp only [go_sem]))))
    refine ⟨by first | exact .inr rfl | exact .inl rfl, .inl ⟨[], _, (by dsimp only [Tryd.f59]; exact sv), ?_, by simp⟩⟩
    first | rfl | (rw [beqF c5]; rfl)
theorem is_ev (t : Tr) (c : Int) (sto : Sto) (lo : Nat) (hlo : lo ≤ sto.length) : CallEv Tryd.prog tab B0 62 [.v (TV t), .v (VI c)] sto lo (.v (.bool (isT t c))) sto := by
  have hc := fun sto lo hlo => constant_ev t sto lo hlo
  rw [show isT t c = (isC t && t.n == c) from rfl]
  generalize isC t = b at *
  obtain ⟨k, n, m, l⟩ := t
  rw [show (Tr.mk k n m l).n = n from rfl]
  cases b with
  | true =>
    refine CallEv.intro ⟨_, _, [], Tryd.func62, rfl, by decide, ?_⟩; simp only [go_sem, Tryd.ntmps62]
    repeat' (first | (refine go ⟨?_⟩) | (((refine call ?_); (refine ⟨_, hc _ _ (by first | omega | (simp; done) | (simp; omega)), ?_⟩); (try simp only [go_sem]))) | ((first | (refine bsp ?_ ?_) | (refine csp ?_ ?_)); all_goals (intro hb; (fail_if_success (cases hb; done)); (try simp only [decide_eq_true_eq, decide_eq_false_iff_not, beq_iff_eq, bne_iff_ne, ne_eq, beq_eq_false_iff_ne, bne_eq_false_iff_eq, Bool.not_eq_true', Bool.not_eq_false', Bool.and_eq_true, Bool.or_eq_true, Decidable.not_not] at hb); (try simp only [go_sem]))))
    refine ⟨by first | exact .inr rfl | exact .inl rfl, .inl ⟨[], _, (by dsimp only [Tryd.f62]; exact sv), ?_, by simp⟩⟩
    rfl
  | false =>
    refine CallEv.intro ⟨_, _, [], Tryd.func62, rfl, by decide, ?_⟩; simp only [go_sem, Tryd.ntmps62]
    repeat' (first | (refine go ⟨?_⟩) | (((refine call ?_); (refine ⟨_, hc _ _ (by first | omega | (simp; done) | (simp; omega)), ?_⟩); (try simp only [go_sem]))) | ((first | (refine bsp ?_ ?_) | (refine csp ?_ ?_)); all_goals (intro hb; (fail_if_success (cases hb; done)); (try simp only [decide_eq_true_eq, decide_eq_false_iff_not, beq_iff_eq, bne_iff_ne, ne_eq, beq_eq_false_iff_ne, bne_eq_false_iff_eq, Bool.not_eq_true', Bool.not_eq_false', Bool.and_eq_true, Bool.or_eq_true, Decidable.not_not] at hb); (try simp only [go_sem]))))
    refine ⟨by first | exact .inr rfl | exact .inl rfl, .inl ⟨[], _, (by dsimp only [Tryd.f62]; exact sv), ?_, by simp⟩⟩
    rfl
theorem eqF_ev (la lb : List Tr) (hla : la.length < 1000000) (hlb : lb.length < 1000000) (h : ∀ (i : Nat) (h1 : i < la.length) (h2 : i < lb.length) (sto : Sto) (lo : Nat), lo ≤ sto.length → CallEv Tryd.prog tab B0 61 [.v (TV la[i]), .v (TV lb[i])] sto lo (.v (.bool (smT la[i] lb[i]))) sto) (sto : Sto) (lo : Nat) (hlo : lo ≤ sto.length) :
    CallEv Tryd.prog tab B0 80 [.v (.sl la.length (cellsTs la)), .v (.sl lb.length (cellsTs lb)), .clo 61 []] sto lo (.v (.bool (decide (cmpTs la lb = 0)))) sto := by
  refine CallEv.intro ⟨_, _, [], Tryd.func80, rfl, by decide, ?_⟩; simp only [go_sem, Tryd.ntmps80]
  by_cases c1 : la.length = lb.length
  · repeat' (first | (refine go ⟨?_⟩) | (fail) | ((first | (refine bsp ?_ ?_) | (refine csp ?_ ?_)); all_goals (intro hb; (fail_if_success (cases hb; done)); (try simp only [decide_eq_true_eq, decide_eq_false_iff_not, beq_iff_eq, bne_iff_ne, ne_eq, beq_eq_false_iff_ne, bne_eq_false_iff_eq, Bool.not_eq_true', Bool.not_eq_false', Bool.and_eq_true, Bool.or_eq_true, Decidable.not_not] at hb); (try simp only [go_sem]))))
    refine c_loop (fun mm s => ∃ (i : Nat) (js : List Ent), (i ≤ la.length ∧ mm = la.length - i ∧ la.take i = lb.take i) ∧ (s.env.length = 32 ∧ s.sto = sto ++ js ∧ s.env[1]? = some (.v (.sl lb.length (cellsTs lb))) ∧ s.env[2]? = some (.clo 61 []) ∧ s.env[15]? = some (.v (.sl la.length (cellsTs la))) ∧ s.env[16]? = some (.v (VI la.length)) ∧ s.env[17]? = some (.v (VI i)))) (.refl _) ⟨0, [], ⟨by omega, rfl, by simp⟩, rfl, ?_, ?_, ?_, ?_, ?_, ?_⟩ ?_
    all_goals first | rfl | (simp; done) | skip
    rintro mm s ⟨i, js, ⟨h1, rfl, h3⟩, hL, hT, k1, k2, k15, k16, k17⟩
    obtain ⟨env, st0⟩ := s; obtain ⟨J, hJ⟩ := listJ hL; rw [show (List.range 32).map J = J 0 :: J 1 :: J 2 :: J 3 :: J 4 :: J 5 :: J 6 :: J 7 :: J 8 :: J 9 :: J 10 :: J 11 :: J 12 :: J 13 :: J 14 :: J 15 :: J 16 :: J 17 :: J 18 :: J 19 :: J 20 :: J 21 :: J 22 :: J 23 :: J 24 :: J 25 :: J 26 :: J 27 :: J 28 :: J 29 :: J 30 :: J 31 :: [] from by kernel_rfl] at hJ; replace k1 := Option.some.inj ((congrArg (·[1]?) hJ).symm.trans k1); replace k2 := Option.some.inj ((congrArg (·[2]?) hJ).symm.trans k2); replace k15 := Option.some.inj ((congrArg (·[15]?) hJ).symm.trans k15); replace k16 := Option.some.inj ((congrArg (·[16]?) hJ).symm.trans k16); replace k17 := Option.some.inj ((congrArg (·[17]?) hJ).symm.trans k17); rw [k1, k2, k15, k16, k17] at hJ; dsimp only at hJ hT; subst hJ; replace hT := hT.symm; subst hT; clear hL k1 k2 k15 k16 k17
    by_cases hi : i < la.length
    · have hib : i < lb.length := by omega
      have hk := fun sto lo hlo => h i hi hib sto lo hlo
      have hsm : smT la[i] lb[i] = true → la[i] = lb[i] := fun hh => smT_eq hh
      have hsn : smT la[i] lb[i] = false → ¬ la[i] = lb[i] := fun hh e => by
        have : smT la[i] lb[i] = true := decide_eq_true ((cmpT_zero _ _).2 e)
        rw [hh] at this; cases this
      have hres : ¬ la[i] = lb[i] → decide (cmpTs la lb = 0) = false := fun hne => decide_eq_false fun h0 => hne (by
        have := (cmpTs_zero _ _).1 h0
        subst this; rfl)
      have hnx : la[i] = lb[i] → la.take (i + 1) = lb.take (i + 1) := fun e => by
        rw [List.take_succ_eq_append_getElem hi, List.take_succ_eq_append_getElem hib, h3, e]
      clear h h3
      have e1 : ∃ k2 n2 m2 l2, la[i] = .mk k2 n2 m2 l2 := by
        cases la[i] with
        | mk a b c d => exact ⟨a, b, c, d, rfl⟩
      have e2 : ∃ k2 n2 m2 l2, lb[i] = .mk k2 n2 m2 l2 := by
        cases lb[i] with
        | mk a b c d => exact ⟨a, b, c, d, rfl⟩
      obtain ⟨k2, n2, m2, l2, e1⟩ := e1
      obtain ⟨k3, n3, m3, l3, e2⟩ := e2
      generalize smT la[i] lb[i] = b at *
      rw [e1, e2] at hk
      cases b with
      | true =>
        have hnx' := hnx (hsm rfl)
        clear hnx hsm hsn hres
        repeat' (first | (refine go ⟨?_⟩) | (fail) | ((first | (refine bsp ?_ ?_) | (refine csp ?_ ?_)); all_goals (intro hb; (fail_if_success (cases hb; done)); (try simp only [decide_eq_true_eq, decide_eq_false_iff_not, beq_iff_eq, bne_iff_ne, ne_eq, beq_eq_false_iff_ne, bne_eq_false_iff_eq, Bool.not_eq_true', Bool.not_eq_false', Bool.and_eq_true, Bool.or_eq_true, Decidable.not_not] at hb); (try simp only [go_sem]))))
        rw [e1]
        repeat' (first | (refine go ⟨?_⟩) | (fail) | ((first | (refine bsp ?_ ?_) | (refine csp ?_ ?_)); all_goals (intro hb; (fail_if_success (cases hb; done)); (try simp only [decide_eq_true_eq, decide_eq_false_iff_not, beq_iff_eq, bne_iff_ne, ne_eq, beq_eq_false_iff_ne, bne_eq_false_iff_eq, Bool.not_eq_true', Bool.not_eq_false', Bool.and_eq_true, Bool.or_eq_true, Decidable.not_not] at hb); (try simp only [go_sem]))))
        rw [e2]
        repeat' (first | (refine go ⟨?_⟩) | (((refine call ?_); (refine ⟨_, hk _ _ (by first | omega | (simp; done) | (simp; omega)), ?_⟩); (try simp only [go_sem]))) | ((first | (refine bsp ?_ ?_) | (refine csp ?_ ?_)); all_goals (intro hb; (fail_if_success (cases hb; done)); (try simp only [decide_eq_true_eq, decide_eq_false_iff_not, beq_iff_eq, bne_iff_ne, ne_eq, beq_eq_false_iff_ne, bne_eq_false_iff_eq, Bool.not_eq_true', Bool.not_eq_false', Bool.and_eq_true, Bool.or_eq_true, Decidable.not_not] at hb); (try simp only [go_sem]))))
        refine ⟨_, _, ?_, .refl _, i + 1, _, ⟨by omega, rfl, hnx'⟩, rfl, rfl, ?_, ?_, ?_, ?_, ?_⟩
        · omega
        all_goals rfl
      | false =>
        rw [hres (hsn rfl)]
        clear hnx hsm hsn hres
        repeat' (first | (refine go ⟨?_⟩) | (fail) | ((first | (refine bsp ?_ ?_) | (refine csp ?_ ?_)); all_goals (intro hb; (fail_if_success (cases hb; done)); (try simp only [decide_eq_true_eq, decide_eq_false_iff_not, beq_iff_eq, bne_iff_ne, ne_eq, beq_eq_false_iff_ne, bne_eq_false_iff_eq, Bool.not_eq_true', Bool.not_eq_false', Bool.and_eq_true, Bool.or_eq_true, Decidable.not_not] at hb); (try simp only [go_sem]))))
        rw [e1]
        repeat' (first | (refine go ⟨?_⟩) | (fail) | ((first | (refine bsp ?_ ?_) | (refine csp ?_ ?_)); all_goals (intro hb; (fail_if_success (cases hb; done)); (try simp only [decide_eq_true_eq, decide_eq_false_iff_not, beq_iff_eq, bne_iff_ne, ne_eq, beq_eq_false_iff_ne, bne_eq_false_iff_eq, Bool.not_eq_true', Bool.not_eq_false', Bool.and_eq_true, Bool.or_eq_true, Decidable.not_not] at hb); (try simp only [go_sem]))))
        rw [e2]
        repeat' (first | (refine go ⟨?_⟩) | (((refine call ?_); (refine ⟨_, hk _ _ (by first | omega | (simp; done) | (simp; omega)), ?_⟩); (try simp only [go_sem]))) | ((first | (refine bsp ?_ ?_) | (refine csp ?_ ?_)); all_goals (intro hb; (fail_if_success (cases hb; done)); (try simp only [decide_eq_true_eq, decide_eq_false_iff_not, beq_iff_eq, bne_iff_ne, ne_eq, beq_eq_false_iff_ne, bne_eq_false_iff_eq, Bool.not_eq_true', Bool.not_eq_false', Bool.and_eq_true, Bool.or_eq_true, Decidable.not_not] at hb); (try simp only [go_sem]))))
        refine ⟨by first | exact .inr rfl | exact .inl rfl, .inl ⟨[], _, (by dsimp only [Tryd.f80]; exact sv), ?_, by simp⟩⟩
        rfl
    · rw [List.take_of_length_le (by omega), List.take_of_length_le (by omega)] at h3
      rw [decide_eq_true ((cmpTs_zero _ _).2 h3)]
      clear h
      repeat' (first | (refine go ⟨?_⟩) | (fail) | ((first | (refine bsp ?_ ?_) | (refine csp ?_ ?_)); all_goals (intro hb; (fail_if_success (cases hb; done)); (try simp only [decide_eq_true_eq, decide_eq_false_iff_not, beq_iff_eq, bne_iff_ne, ne_eq, beq_eq_false_iff_ne, bne_eq_false_iff_eq, Bool.not_eq_true', Bool.not_eq_false', Bool.and_eq_true, Bool.or_eq_true, Decidable.not_not] at hb); (try simp only [go_sem]))))
      refine ⟨by first | exact .inr rfl | exact .inl rfl, .inl ⟨[], _, (by dsimp only [Tryd.f80]; exact sv), ?_, by simp⟩⟩
      rfl
  · rw [decide_eq_false fun h0 => c1 (by rw [(cmpTs_zero _ _).1 h0])]
    clear h
    repeat' (first | (refine go ⟨?_⟩) | (fail) | ((first | (refine bsp ?_ ?_) | (refine csp ?_ ?_)); all_goals (intro hb; (fail_if_success (cases hb; done)); (try simp only [decide_eq_true_eq, decide_eq_false_iff_not, beq_iff_eq, bne_iff_ne, ne_eq, beq_eq_false_iff_ne, bne_eq_false_iff_eq, Bool.not_eq_true', Bool.not_eq_false', Bool.and_eq_true, Bool.or_eq_true, Decidable.not_not] at hb); (try simp only [go_sem]))))
    refine ⟨by first | exact .inr rfl | exact .inl rfl, .inl ⟨[], _, (by dsimp only [Tryd.f80]; exact sv), ?_, by simp⟩⟩
    rfl
theorem smT_mk (k n m k' n' m' : Int) (l l' : List Tr) : smT (.mk k n m l) (.mk k' n' m' l') = (k == k' && n == n' && m == m' && decide (cmpTs l l' = 0)) := by
  rw [Bool.eq_iff_iff]
  simp only [smT, decide_eq_true_eq, cmpT_zero, Bool.and_eq_true, beq_iff_eq, cmpTs_zero, Tr.mk.injEq, and_assoc]
theorem sameT_ev (N : Nat) : ∀ (a b : Tr) (sto : Sto) (lo : Nat), tsz a + tsz b ≤ N → tsz a + tsz b < 1000000 → lo ≤ sto.length → CallEv Tryd.prog tab B0 61 [.v (TV a), .v (TV b)] sto lo (.v (.bool (smT a b))) sto := by
  induction N with
  | zero => intro a b sto lo h; have := tsz_pos a; omega
  | succ N ih =>
    intro a b sto lo hN hs hlo
    obtain ⟨k, n, m, l⟩ := a
    obtain ⟨k', n', m', l'⟩ := b
    simp only [tsz] at hN hs
    have h1 := tszs_length l
    have h2 := tszs_length l'
    have hq := fun sto lo hlo => eqF_ev l l' (by omega) (by omega) (fun i q1 q2 sto lo hlo => ih l[i] l'[i] sto lo (by have := tsz_get q1; have := tsz_get q2; omega) (by have := tsz_get q1; have := tsz_get q2; omega) hlo) sto lo hlo
    rw [smT_mk]
    generalize decide (cmpTs l l' = 0) = d at *
    clear ih
    by_cases c1 : k = k'
    · rw [beqT c1]
      by_cases c2 : n = n'
      · rw [beqT c2]
        by_cases c3 : m = m'
        · rw [beqT c3]
          refine CallEv.intro ⟨_, _, [], Tryd.func61, rfl, by decide, ?_⟩; simp only [go_sem, Tryd.ntmps61]
          repeat' (first | (refine go ⟨?_⟩) | (((refine call ?_); (refine ⟨_, hq _ _ (by first | omega | (simp; done) | (simp; omega)), ?_⟩); (try simp only [go_sem]))) | ((first | (refine bsp ?_ ?_) | (refine csp ?_ ?_)); all_goals (intro hb; (fail_if_success (cases hb; done)); (try simp only [decide_eq_true_eq, decide_eq_false_iff_not, beq_iff_eq, bne_iff_ne, ne_eq, beq_eq_false_iff_ne, bne_eq_false_iff_eq, Bool.not_eq_true', Bool.not_eq_false', Bool.and_eq_true, Bool.or_eq_true, Decidable.not_not] at hb); (try simp only [go_sem]))))
          refine ⟨by first | exact .inr rfl | exact .inl rfl, .inl ⟨[], _, (by dsimp only [Tryd.f61]; exact sv), ?_, by simp⟩⟩
          rfl
        · rw [beqF c3]
          refine CallEv.intro ⟨_, _, [], Tryd.func61, rfl, by decide, ?_⟩; simp only [go_sem, Tryd.ntmps61]
          repeat' (first | (refine go ⟨?_⟩) | (((refine call ?_); (refine ⟨_, hq _ _ (by first | omega | (simp; done) | (simp; omega)), ?_⟩); (try simp only [go_sem]))) | ((first | (refine bsp ?_ ?_) | (refine csp ?_ ?_)); all_goals (intro hb; (fail_if_success (cases hb; done)); (try simp only [decide_eq_true_eq, decide_eq_false_iff_not, beq_iff_eq, bne_iff_ne, ne_eq, beq_eq_false_iff_ne, bne_eq_false_iff_eq, Bool.not_eq_true', Bool.not_eq_false', Bool.and_eq_true, Bool.or_eq_true, Decidable.not_not] at hb); (try simp only [go_sem]))))
          refine ⟨by first | exact .inr rfl | exact .inl rfl, .inl ⟨[], _, (by dsimp only [Tryd.f61]; exact sv), ?_, by simp⟩⟩
          rfl
      · rw [beqF c2]
        refine CallEv.intro ⟨_, _, [], Tryd.func61, rfl, by decide, ?_⟩; simp only [go_sem, Tryd.ntmps61]
        repeat' (first | (refine go ⟨?_⟩) | (((refine call ?_); (refine ⟨_, hq _ _ (by first | omega | (simp; done) | (simp; omega)), ?_⟩); (try simp only [go_sem]))) | ((first | (refine bsp ?_ ?_) | (refine csp ?_ ?_)); all_goals (intro hb; (fail_if_success (cases hb; done)); (try simp only [decide_eq_true_eq, decide_eq_false_iff_not, beq_iff_eq, bne_iff_ne, ne_eq, beq_eq_false_iff_ne, bne_eq_false_iff_eq, Bool.not_eq_true', Bool.not_eq_false', Bool.and_eq_true, Bool.or_eq_true, Decidable.not_not] at hb); (try simp only [go_sem]))))
        refine ⟨by first | exact .inr rfl | exact .inl rfl, .inl ⟨[], _, (by dsimp only [Tryd.f61]; exact sv), ?_, by simp⟩⟩
        rfl
    · rw [beqF c1]
      refine CallEv.intro ⟨_, _, [], Tryd.func61, rfl, by decide, ?_⟩; simp only [go_sem, Tryd.ntmps61]
      repeat' (first | (refine go ⟨?_⟩) | (((refine call ?_); (refine ⟨_, hq _ _ (by first | omega | (simp; done) | (simp; omega)), ?_⟩); (try simp only [go_sem]))) | ((first | (refine bsp ?_ ?_) | (refine csp ?_ ?_)); all_goals (intro hb; (fail_if_success (cases hb; done)); (try simp only [decide_eq_true_eq, decide_eq_false_iff_not, beq_iff_eq, bne_iff_ne, ne_eq, beq_eq_false_iff_ne, bne_eq_false_iff_eq, Bool.not_eq_true', Bool.not_eq_false', Bool.and_eq_true, Bool.or_eq_true, Decidable.not_not] at hb); (try simp only [go_sem]))))
      refine ⟨by first | exact .inr rfl | exact .inl rfl, .inl ⟨[], _, (by dsimp only [Tryd.f61]; exact sv), ?_, by simp⟩⟩
      rfl
end Go.Proofs.YtomameefmobnlaaDoor
namespace Go.Proofs.YtomameefmobnlaaDoor
open Go Go.RowKit

attribute [local irreducible] EvOps EvC
attribute [local go_sem] List.getElem?_toArray getS List.flatten_cons List.flatten_nil List.contains_nil
set_option linter.unusedSimpArgs false
set_option linter.unusedVariables false
set_option maxRecDepth 100000
set_option maxHeartbeats 4000000
theorem tszs_take {l : List Tr} {i : Nat} (h : i < l.length) : tszs (l.take (i + 1)) = tszs (l.take i) + tsz l[i] := by
  rw [List.take_succ_eq_append_getElem h]
  have : ∀ a b : List Tr, tszs (a ++ b) = tszs a + tszs b := by
    intro a b
    induction a with
    | nil => simp [tszs]
    | cons x a ih => simp only [List.cons_append, tszs, ih]; omega
  rw [this]; simp [tszs]
theorem tszs_take_le (l : List Tr) : ∀ i, tszs (l.take i) ≤ tszs l := by
  intro i
  induction l generalizing i with
  | nil => simp
  | cons x l ih =>
    cases i with
    | zero => simp [tszs]
    | succ i => simp only [List.take_succ_cons, tszs]; have := ih i; omega
theorem size_ev (N : Nat) : ∀ (t : Tr) (sto : Sto) (lo : Nat), tsz t ≤ N → tsz t < 1000000 → lo ≤ sto.length → CallEv Tryd.prog tab B0 12 [.v (TV t)] sto lo (.v (VI (tsz t))) sto := by
  induction N with
  | zero => intro t sto lo h; have := tsz_pos t; omega
  | succ N ih =>
    intro t sto lo hN hs hlo
    obtain ⟨k, n, m, l⟩ := t
    simp only [tsz] at hN hs
    have hll := tszs_length l
    refine CallEv.intro ⟨_, _, [], Tryd.func12, rfl, by decide, ?_⟩; simp only [go_sem, Tryd.ntmps12]
    repeat' (first | (refine go ⟨?_⟩) | (fail) | ((first | (refine bsp ?_ ?_) | (refine csp ?_ ?_)); all_goals (intro hb; (fail_if_success (cases hb; done)); (try simp only [decide_eq_true_eq, decide_eq_false_iff_not, beq_iff_eq, bne_iff_ne, ne_eq, beq_eq_false_iff_ne, bne_eq_false_iff_eq, Bool.not_eq_true', Bool.not_eq_false', Bool.and_eq_true, Bool.or_eq_true, Decidable.not_not] at hb); (try simp only [go_sem]))))
    refine c_loop (fun mm s => ∃ (i sm : Nat), (i ≤ l.length ∧ mm = l.length - i ∧ sm = 1 + tszs (l.take i)) ∧ (s.env.length = 21 ∧ s.sto = sto ++ [.cells [.v (VI k), .v (VI n), .v (VI m), .v (.sl l.length (cellsTs l))]] ∧ s.env[1]? = some (.ptr sto.length 0) ∧ s.env[3]? = some (.v (VI sm)) ∧ s.env[4]? = some (.v (VI i)))) (.refl _) ⟨0, 1, ⟨by omega, rfl, rfl⟩, rfl, rfl, ?_, ?_, ?_⟩ ?_
    all_goals first | rfl | skip
    rintro mm s ⟨i, sm, ⟨h1, rfl, h2⟩, hL, hT, k1, k3, k4⟩
    obtain ⟨env, st0⟩ := s; obtain ⟨J, hJ⟩ := listJ hL; rw [show (List.range 21).map J = J 0 :: J 1 :: J 2 :: J 3 :: J 4 :: J 5 :: J 6 :: J 7 :: J 8 :: J 9 :: J 10 :: J 11 :: J 12 :: J 13 :: J 14 :: J 15 :: J 16 :: J 17 :: J 18 :: J 19 :: J 20 :: [] from by kernel_rfl] at hJ; replace k1 := Option.some.inj ((congrArg (·[1]?) hJ).symm.trans k1); replace k3 := Option.some.inj ((congrArg (·[3]?) hJ).symm.trans k3); replace k4 := Option.some.inj ((congrArg (·[4]?) hJ).symm.trans k4); rw [k1, k3, k4] at hJ; dsimp only at hJ hT; subst hJ; replace hT := hT.symm; subst hT; clear hL k1 k3 k4
    have hle := tszs_take_le l i
    by_cases hi : i < l.length
    · have hnx := tszs_take hi
      have hz := tsz_get hi
      have hle2 := tszs_take_le l (i + 1)
      have hk := fun sto lo hlo => ih l[i] sto lo (by omega) (by omega) hlo
      clear ih
      generalize htt : l[i] = t at *
      obtain ⟨k2, n2, m2, l2⟩ := t
      repeat' (first | (refine go ⟨?_⟩) | (fail) | ((first | (refine bsp ?_ ?_) | (refine csp ?_ ?_)); all_goals (intro hb; (fail_if_success (cases hb; done)); (try simp only [decide_eq_true_eq, decide_eq_false_iff_not, beq_iff_eq, bne_iff_ne, ne_eq, beq_eq_false_iff_ne, bne_eq_false_iff_eq, Bool.not_eq_true', Bool.not_eq_false', Bool.and_eq_true, Bool.or_eq_true, Decidable.not_not] at hb); (try simp only [go_sem]))))
      rw [htt]
      repeat' (first | (refine go ⟨?_⟩) | (((refine call ?_); (refine ⟨_, hk _ _ (by first | omega | (simp; done) | (simp; omega)), ?_⟩); (try simp only [go_sem]))) | ((first | (refine bsp ?_ ?_) | (refine csp ?_ ?_)); all_goals (intro hb; (fail_if_success (cases hb; done)); (try simp only [decide_eq_true_eq, decide_eq_false_iff_not, beq_iff_eq, bne_iff_ne, ne_eq, beq_eq_false_iff_ne, bne_eq_false_iff_eq, Bool.not_eq_true', Bool.not_eq_false', Bool.and_eq_true, Bool.or_eq_true, Decidable.not_not] at hb); (try simp only [go_sem]))))
      refine ⟨_, _, ?_, .refl _, i + 1, sm + tsz (.mk k2 n2 m2 l2), ⟨by omega, rfl, by omega⟩, rfl, rfl, ?_, ?_, ?_⟩
      · omega
      all_goals rfl
    · rw [List.take_of_length_le (by omega)] at h2
      repeat' (first | (refine go ⟨?_⟩) | (fail) | ((first | (refine bsp ?_ ?_) | (refine csp ?_ ?_)); all_goals (intro hb; (fail_if_success (cases hb; done)); (try simp only [decide_eq_true_eq, decide_eq_false_iff_not, beq_iff_eq, bne_iff_ne, ne_eq, beq_eq_false_iff_ne, bne_eq_false_iff_eq, Bool.not_eq_true', Bool.not_eq_false', Bool.and_eq_true, Bool.or_eq_true, Decidable.not_not] at hb); (try simp only [go_sem]))))
      refine ⟨by first | exact .inr rfl | exact .inl rfl, .inl ⟨[], _, (by dsimp only [Tryd.f12]; exact sv), ?_, by simp⟩⟩
      rw [tsz, ← h2]
end Go.Proofs.YtomameefmobnlaaDoor
namespace Go.Proofs.YtomameefmobnlaaDoor
open Go Go.RowKit

attribute [local irreducible] EvOps EvC
attribute [local go_sem] List.getElem?_toArray getS List.flatten_cons List.flatten_nil List.contains_nil opsV
set_option linter.unusedSimpArgs false
set_option linter.unusedVariables false
set_option maxRecDepth 100000
set_option maxHeartbeats 4000000
theorem tSize_ev (N : Nat) : ∀ (t : Tr) (sto : Sto) (lo : Nat), tsz t ≤ N → tsz t < 1000000 → lo ≤ sto.length → CallEv Tryd.prog tab B0 35 [.v (TV t)] sto lo (.v (VI (tsz t))) sto := by
  induction N with
  | zero => intro t sto lo h; have := tsz_pos t; omega
  | succ N ih =>
    intro t sto lo hN hs hlo
    obtain ⟨k, n, m, l⟩ := t
    simp only [tsz] at hN hs
    have hll := tszs_length l
    refine CallEv.intro ⟨_, _, [], Tryd.func35, rfl, by decide, ?_⟩; simp only [go_sem, Tryd.ntmps35]
    repeat' (first | (refine go ⟨?_⟩) | (fail) | ((first | (refine bsp ?_ ?_) | (refine csp ?_ ?_)); all_goals (intro hb; (fail_if_success (cases hb; done)); (try simp only [decide_eq_true_eq, decide_eq_false_iff_not, beq_iff_eq, bne_iff_ne, ne_eq, beq_eq_false_iff_ne, bne_eq_false_iff_eq, Bool.not_eq_true', Bool.not_eq_false', Bool.and_eq_true, Bool.or_eq_true, Decidable.not_not] at hb); (try simp only [go_sem]))))
    refine c_loop (fun mm s => ∃ (i sm : Nat) (js : List Ent), (i ≤ l.length ∧ mm = l.length - i ∧ sm = 1 + tszs (l.take i)) ∧ (s.env.length = 19 ∧ s.sto = sto ++ .cells [.v (VI k), .v (VI n), .v (VI m), .v (.sl l.length (cellsTs l))] :: js ∧ s.env[1]? = some (.ptr sto.length 0) ∧ s.env[3]? = some (.v (VI sm)) ∧ s.env[7]? = some (.v (.sl l.length (cellsTs l))) ∧ s.env[8]? = some (.v (VI l.length)) ∧ s.env[9]? = some (.v (VI i)))) (.refl _) ⟨0, 1, [], ⟨by omega, rfl, rfl⟩, rfl, rfl, ?_, ?_, ?_, ?_, ?_⟩ ?_
    all_goals first | rfl | skip
    rintro mm s ⟨i, sm, js, ⟨h1, rfl, h2⟩, hL, hT, k1, k3, k7, k8, k9⟩
    obtain ⟨env, st0⟩ := s; obtain ⟨J, hJ⟩ := listJ hL; rw [show (List.range 19).map J = J 0 :: J 1 :: J 2 :: J 3 :: J 4 :: J 5 :: J 6 :: J 7 :: J 8 :: J 9 :: J 10 :: J 11 :: J 12 :: J 13 :: J 14 :: J 15 :: J 16 :: J 17 :: J 18 :: [] from by kernel_rfl] at hJ; replace k1 := Option.some.inj ((congrArg (·[1]?) hJ).symm.trans k1); replace k3 := Option.some.inj ((congrArg (·[3]?) hJ).symm.trans k3); replace k7 := Option.some.inj ((congrArg (·[7]?) hJ).symm.trans k7); replace k8 := Option.some.inj ((congrArg (·[8]?) hJ).symm.trans k8); replace k9 := Option.some.inj ((congrArg (·[9]?) hJ).symm.trans k9); rw [k1, k3, k7, k8, k9] at hJ; dsimp only at hJ hT; subst hJ; replace hT := hT.symm; subst hT; clear hL k1 k3 k7 k8 k9
    have hle := tszs_take_le l i
    by_cases hi : i < l.length
    · have hnx := tszs_take hi
      have hz := tsz_get hi
      have hle2 := tszs_take_le l (i + 1)
      have hk := fun sto lo hlo => ih l[i] sto lo (by omega) (by omega) hlo
      clear ih
      generalize htt : l[i] = t at *
      obtain ⟨k2, n2, m2, l2⟩ := t
      repeat' (first | (refine go ⟨?_⟩) | (fail) | ((first | (refine bsp ?_ ?_) | (refine csp ?_ ?_)); all_goals (intro hb; (fail_if_success (cases hb; done)); (try simp only [decide_eq_true_eq, decide_eq_false_iff_not, beq_iff_eq, bne_iff_ne, ne_eq, beq_eq_false_iff_ne, bne_eq_false_iff_eq, Bool.not_eq_true', Bool.not_eq_false', Bool.and_eq_true, Bool.or_eq_true, Decidable.not_not] at hb); (try simp only [go_sem]))))
      rw [htt]
      repeat' (first | (refine go ⟨?_⟩) | (((refine call ?_); (refine ⟨_, hk _ _ (by first | omega | (simp; done) | (simp; omega)), ?_⟩); (try simp only [go_sem]))) | ((first | (refine bsp ?_ ?_) | (refine csp ?_ ?_)); all_goals (intro hb; (fail_if_success (cases hb; done)); (try simp only [decide_eq_true_eq, decide_eq_false_iff_not, beq_iff_eq, bne_iff_ne, ne_eq, beq_eq_false_iff_ne, bne_eq_false_iff_eq, Bool.not_eq_true', Bool.not_eq_false', Bool.and_eq_true, Bool.or_eq_true, Decidable.not_not] at hb); (try simp only [go_sem]))))
      refine ⟨_, _, ?_, .refl _, i + 1, sm + tsz (.mk k2 n2 m2 l2), _, ⟨by omega, rfl, by omega⟩, rfl, rfl, ?_, ?_, ?_, ?_, ?_⟩
      · omega
      all_goals rfl
    · rw [List.take_of_length_le (by omega)] at h2
      repeat' (first | (refine go ⟨?_⟩) | (fail) | ((first | (refine bsp ?_ ?_) | (refine csp ?_ ?_)); all_goals (intro hb; (fail_if_success (cases hb; done)); (try simp only [decide_eq_true_eq, decide_eq_false_iff_not, beq_iff_eq, bne_iff_ne, ne_eq, beq_eq_false_iff_ne, bne_eq_false_iff_eq, Bool.not_eq_true', Bool.not_eq_false', Bool.and_eq_true, Bool.or_eq_true, Decidable.not_not] at hb); (try simp only [go_sem]))))
      refine ⟨by first | exact .inr rfl | exact .inl rfl, .inl ⟨[], _, (by dsimp only [Tryd.f35]; exact sv), ?_, by simp⟩⟩
      rw [tsz, ← h2]
theorem truth_ev (op : Int) (sto : Sto) (lo : Nat) (hlo : lo ≤ sto.length) : CallEv Tryd.prog tab B0 66 [.v (VI op)] sto lo (.v (.bool (decide (10 ≤ op ∧ op < 14)))) sto := by
  by_cases h1 : op < 0
  · rw [decide_eq_false (by omega)]
    refine CallEv.intro ⟨_, _, [], Tryd.func66, rfl, by decide, ?_⟩; simp only [go_sem, Tryd.ntmps66]
    repeat' (first | (refine go ⟨?_⟩) | (fail) | ((first | (refine bsp ?_ ?_) | (refine csp ?_ ?_)); all_goals (intro hb; (fail_if_success (cases hb; done)); (try simp only [decide_eq_true_eq, decide_eq_false_iff_not, beq_iff_eq, bne_iff_ne, ne_eq, beq_eq_false_iff_ne, bne_eq_false_iff_eq, Bool.not_eq_true', Bool.not_eq_false', Bool.and_eq_true, Bool.or_eq_true, Decidable.not_not] at hb); (try simp only [go_sem]))))
    refine ⟨by first | exact .inr rfl | exact .inl rfl, .inl ⟨[], _, (by dsimp only [Tryd.f66]; exact sv), ?_, by simp⟩⟩
    rfl
  by_cases h2 : op ≥ 14
  · rw [decide_eq_false (by omega)]
    refine CallEv.intro ⟨_, _, [], Tryd.func66, rfl, by decide, ?_⟩; simp only [go_sem, Tryd.ntmps66]
    repeat' (first | (refine go ⟨?_⟩) | (fail) | ((first | (refine bsp ?_ ?_) | (refine csp ?_ ?_)); all_goals (intro hb; (fail_if_success (cases hb; done)); (try simp only [decide_eq_true_eq, decide_eq_false_iff_not, beq_iff_eq, bne_iff_ne, ne_eq, beq_eq_false_iff_ne, bne_eq_false_iff_eq, Bool.not_eq_true', Bool.not_eq_false', Bool.and_eq_true, Bool.or_eq_true, Decidable.not_not] at hb); (try simp only [go_sem]))))
    refine ⟨by first | exact .inr rfl | exact .inl rfl, .inl ⟨[], _, (by dsimp only [Tryd.f66]; exact sv), ?_, by simp⟩⟩
    rfl
  obtain rfl | rfl | rfl | rfl | rfl | rfl | rfl | rfl | rfl | rfl | rfl | rfl | rfl | rfl : op = 0 ∨ op = 1 ∨ op = 2 ∨ op = 3 ∨ op = 4 ∨ op = 5 ∨ op = 6 ∨ op = 7 ∨ op = 8 ∨ op = 9 ∨ op = 10 ∨ op = 11 ∨ op = 12 ∨ op = 13 := by omega
  all_goals
    refine CallEv.intro ⟨_, _, [], Tryd.func66, rfl, by decide, ?_⟩; simp only [go_sem, Tryd.ntmps66]
    repeat' (first | (refine go ⟨?_⟩) | (fail) | ((first | (refine bsp ?_ ?_) | (refine csp ?_ ?_)); all_goals (intro hb; (fail_if_success (cases hb; done)); (try simp only [decide_eq_true_eq, decide_eq_false_iff_not, beq_iff_eq, bne_iff_ne, ne_eq, beq_eq_false_iff_ne, bne_eq_false_iff_eq, Bool.not_eq_true', Bool.not_eq_false', Bool.and_eq_true, Bool.or_eq_true, Decidable.not_not] at hb); (try simp only [go_sem]))))
    refine ⟨by first | exact .inr rfl | exact .inl rfl, .inl ⟨[], _, (by dsimp only [Tryd.f66]; exact sv), ?_, by simp⟩⟩
    rfl
end Go.Proofs.YtomameefmobnlaaDoor
namespace Go.Proofs.YtomameefmobnlaaDoor
open Go Go.RowKit

attribute [local irreducible] EvOps EvC
attribute [local go_sem] List.getElem?_toArray List.flatten_cons List.flatten_nil List.contains_nil List.append_nil List.length_set Bool.and_self implies_true eq_self List.contains_cons beq_self_eq_true Bool.true_or
attribute [local go_sem] getS sA0 sA sB0 sB sC sC2 sD sD2 sT
theorem flat_rep (n : Nat) : (List.replicate n [V.int .i64 0]).flatten = (List.replicate n (0 : Int)).map VI := by
  induction n with
  | zero => rfl
  | succ n ih => rw [List.replicate_succ, List.flatten_cons, ih, List.replicate_succ]; rfl
attribute [local go_sem] mget_map mput_map flat_rep List.getElem?_set_self
theorem tygo {p q : Prop} (k : Later q) (h : Later q → p := by (intro k; (first | with_reducible (first | refine c_seq ?_ | refine c_block ?_ | refine c_region ?_ | refine c_skip ?_ | refine c_exit ?_ | refine c_ret ?_ | refine then_normal ?_ | refine then_exit ?_ | refine then_ret ?_ | refine block_normal ?_ | refine block_here ?_ | refine block_ret ?_ | refine block_far (by decide) ?_ | refine ops_nil ?_ | refine c_cond_t rfl ?_ | refine c_cond_f rfl ?_) | ((with_reducible apply ops_pure); rfl; (simp (disch := (first | omega | assumption | ((repeat' with_reducible apply And.intro) <;> first | omega | assumption | rfl | (apply Or.inl; rfl) | (apply Or.inr; first | rfl | trivial | fail) | fail) | fail)) only [go_sem, if_pos, if_neg, wrapI, wrapU, decide_eq_true, decide_eq_false, beqT, beqF, bneT, bneF, hp0, hg] <;> rfl); simp only [go_sem]) | ((with_reducible apply ops_pureF); rfl; (intro _; simp (disch := (first | omega | assumption | ((repeat' with_reducible apply And.intro) <;> first | omega | assumption | rfl | (apply Or.inl; rfl) | (apply Or.inr; first | rfl | trivial | fail) | fail) | fail)) only [go_sem, if_pos, if_neg, wrapI, wrapU, decide_eq_true, decide_eq_false, beqT, beqF, bneT, bneF, hp0, hg] <;> rfl); simp only [go_sem]) | ((with_reducible apply ops_pureD); kernel_rfl; rfl; (simp (disch := (first | omega | assumption | ((repeat' with_reducible apply And.intro) <;> first | omega | assumption | rfl | (apply Or.inl; rfl) | (apply Or.inr; first | rfl | trivial | fail) | fail) | fail)) only [go_sem, if_pos, if_neg, wrapI, wrapU, decide_eq_true, decide_eq_false, beqT, beqF, bneT, bneF, hp0, hg] <;> rfl); simp only [go_sem]) | ((with_reducible apply ops_skip); rfl; simp only [go_sem]) | ((with_reducible apply c_regionD); kernel_rfl) | ((with_reducible apply ops_eff); decide; rfl; (simp (disch := (first | omega | assumption | ((repeat' with_reducible apply And.intro) <;> first | omega | assumption | rfl | (apply Or.inl; rfl) | (apply Or.inr; first | rfl | trivial | fail) | fail) | fail)) only [go_sem, if_pos, if_neg, wrapI, wrapU, decide_eq_true, decide_eq_false, beqT, beqF, bneT, bneF, hp0, hg] <;> rfl); simp only [go_sem])); (repeat (first | with_reducible (first | refine c_seq ?_ | refine c_block ?_ | refine c_region ?_ | refine c_skip ?_ | refine c_exit ?_ | refine c_ret ?_ | refine then_normal ?_ | refine then_exit ?_ | refine then_ret ?_ | refine block_normal ?_ | refine block_here ?_ | refine block_ret ?_ | refine block_far (by decide) ?_ | refine ops_nil ?_ | refine c_cond_t rfl ?_ | refine c_cond_f rfl ?_) | ((with_reducible apply ops_pure); rfl; (simp (disch := (first | omega | assumption | ((repeat' with_reducible apply And.intro) <;> first | omega | assumption | rfl | (apply Or.inl; rfl) | (apply Or.inr; first | rfl | trivial | fail) | fail) | fail)) only [go_sem, if_pos, if_neg, wrapI, wrapU, decide_eq_true, decide_eq_false, beqT, beqF, bneT, bneF, hp0, hg] <;> rfl); simp only [go_sem]) | ((with_reducible apply ops_pureF); rfl; (intro _; simp (disch := (first | omega | assumption | ((repeat' with_reducible apply And.intro) <;> first | omega | assumption | rfl | (apply Or.inl; rfl) | (apply Or.inr; first | rfl | trivial | fail) | fail) | fail)) only [go_sem, if_pos, if_neg, wrapI, wrapU, decide_eq_true, decide_eq_false, beqT, beqF, bneT, bneF, hp0, hg] <;> rfl); simp only [go_sem]) | ((with_reducible apply ops_pureD); kernel_rfl; rfl; (simp (disch := (first | omega | assumption | ((repeat' with_reducible apply And.intro) <;> first | omega | assumption | rfl | (apply Or.inl; rfl) | (apply Or.inr; first | rfl | trivial | fail) | fail) | fail)) only [go_sem, if_pos, if_neg, wrapI, wrapU, decide_eq_true, decide_eq_false, beqT, beqF, bneT, bneF, hp0, hg] <;> rfl); simp only [go_sem]) | ((with_reducible apply ops_skip); rfl; simp only [go_sem]) | ((with_reducible apply c_regionD); kernel_rfl) | ((with_reducible apply ops_eff); decide; rfl; (simp (disch := (first | omega | assumption | ((repeat' with_reducible apply And.intro) <;> first | omega | assumption | rfl | (apply Or.inl; rfl) | (apply Or.inr; first | rfl | trivial | fail) | fail) | fail)) only [go_sem, if_pos, if_neg, wrapI, wrapU, decide_eq_true, decide_eq_false, beqT, beqF, bneT, bneF, hp0, hg] <;> rfl); simp only [go_sem]))); exact k.get)) : p := h k
theorem tygoX {p q : Prop} (k : Later q) (h : Later q → p := by (intro k; (first | with_reducible (first | refine c_seq ?_ | refine c_block ?_ | refine c_skip ?_ | refine c_exit ?_ | refine c_ret ?_ | refine then_normal ?_ | refine then_exit ?_ | refine then_ret ?_ | refine block_normal ?_ | refine block_here ?_ | refine block_ret ?_ | refine block_far (by decide) ?_ | refine ops_nil ?_ | refine c_cond_t rfl ?_ | refine c_cond_f rfl ?_) | ((with_reducible apply ops_pure); rfl; (simp (disch := (first | omega | assumption | ((repeat' with_reducible apply And.intro) <;> first | omega | assumption | rfl | (apply Or.inl; rfl) | (apply Or.inr; first | rfl | trivial | fail) | fail) | fail)) only [go_sem, if_pos, if_neg, wrapI, wrapU, decide_eq_true, decide_eq_false, beqT, beqF, bneT, bneF, hp0, hg] <;> rfl); simp only [go_sem]) | ((with_reducible apply ops_pureF); rfl; (intro _; simp (disch := (first | omega | assumption | ((repeat' with_reducible apply And.intro) <;> first | omega | assumption | rfl | (apply Or.inl; rfl) | (apply Or.inr; first | rfl | trivial | fail) | fail) | fail)) only [go_sem, if_pos, if_neg, wrapI, wrapU, decide_eq_true, decide_eq_false, beqT, beqF, bneT, bneF, hp0, hg] <;> rfl); simp only [go_sem]) | ((with_reducible apply ops_pureD); kernel_rfl; rfl; (simp (disch := (first | omega | assumption | ((repeat' with_reducible apply And.intro) <;> first | omega | assumption | rfl | (apply Or.inl; rfl) | (apply Or.inr; first | rfl | trivial | fail) | fail) | fail)) only [go_sem, if_pos, if_neg, wrapI, wrapU, decide_eq_true, decide_eq_false, beqT, beqF, bneT, bneF, hp0, hg] <;> rfl); simp only [go_sem]) | ((with_reducible apply ops_skip); rfl; simp only [go_sem]) | ((with_reducible apply c_regionD); kernel_rfl) | ((with_reducible apply ops_eff); decide; rfl; (simp (disch := (first | omega | assumption | ((repeat' with_reducible apply And.intro) <;> first | omega | assumption | rfl | (apply Or.inl; rfl) | (apply Or.inr; first | rfl | trivial | fail) | fail) | fail)) only [go_sem, if_pos, if_neg, wrapI, wrapU, decide_eq_true, decide_eq_false, beqT, beqF, bneT, bneF, hp0, hg] <;> rfl); simp only [go_sem])); (repeat (first | with_reducible (first | refine c_seq ?_ | refine c_block ?_ | refine c_skip ?_ | refine c_exit ?_ | refine c_ret ?_ | refine then_normal ?_ | refine then_exit ?_ | refine then_ret ?_ | refine block_normal ?_ | refine block_here ?_ | refine block_ret ?_ | refine block_far (by decide) ?_ | refine ops_nil ?_ | refine c_cond_t rfl ?_ | refine c_cond_f rfl ?_) | ((with_reducible apply ops_pure); rfl; (simp (disch := (first | omega | assumption | ((repeat' with_reducible apply And.intro) <;> first | omega | assumption | rfl | (apply Or.inl; rfl) | (apply Or.inr; first | rfl | trivial | fail) | fail) | fail)) only [go_sem, if_pos, if_neg, wrapI, wrapU, decide_eq_true, decide_eq_false, beqT, beqF, bneT, bneF, hp0, hg] <;> rfl); simp only [go_sem]) | ((with_reducible apply ops_pureF); rfl; (intro _; simp (disch := (first | omega | assumption | ((repeat' with_reducible apply And.intro) <;> first | omega | assumption | rfl | (apply Or.inl; rfl) | (apply Or.inr; first | rfl | trivial | fail) | fail) | fail)) only [go_sem, if_pos, if_neg, wrapI, wrapU, decide_eq_true, decide_eq_false, beqT, beqF, bneT, bneF, hp0, hg] <;> rfl); simp only [go_sem]) | ((with_reducible apply ops_pureD); kernel_rfl; rfl; (simp (disch := (first | omega | assumption | ((repeat' with_reducible apply And.intro) <;> first | omega | assumption | rfl | (apply Or.inl; rfl) | (apply Or.inr; first | rfl | trivial | fail) | fail) | fail)) only [go_sem, if_pos, if_neg, wrapI, wrapU, decide_eq_true, decide_eq_false, beqT, beqF, bneT, bneF, hp0, hg] <;> rfl); simp only [go_sem]) | ((with_reducible apply ops_skip); rfl; simp only [go_sem]) | ((with_reducible apply c_regionD); kernel_rfl) | ((with_reducible apply ops_eff); decide; rfl; (simp (disch := (first | omega | assumption | ((repeat' with_reducible apply And.intro) <;> first | omega | assumption | rfl | (apply Or.inl; rfl) | (apply Or.inr; first | rfl | trivial | fail) | fail) | fail)) only [go_sem, if_pos, if_neg, wrapI, wrapU, decide_eq_true, decide_eq_false, beqT, beqF, bneT, bneF, hp0, hg] <;> rfl); simp only [go_sem]))); exact k.get)) : p := h k
theorem tysv {p : Prop} (h : p := by simp (disch := (first | omega | assumption | ((repeat' with_reducible apply And.intro) <;> first | omega | assumption | rfl | (apply Or.inl; rfl) | (apply Or.inr; first | rfl | trivial | fail) | fail) | fail)) only [go_sem, if_pos, if_neg, wrapI, wrapU, decide_eq_true, decide_eq_false, beqT, beqF, bneT, bneF, hp0, hg] <;> rfl) : p := h
theorem tycall {T : Tab} {X : CallP} {n0 lo : Nat} {wt : List Tmp} {draw : Bool} {ops : Array Oper} {Q : St → Prop} {rest : List Oper} {o : Oper} {env : List D} {sto : Sto} {f : FuncId} {args : List D} (k : ∃ r, X f args sto (if draw then sto.length else lo) r sto ∧ EvOps T X n0 lo wt draw ops Q rest (St.put ⟨env, sto⟩ o.dst r)) (hg : guardD ops o env = some true := by rfl) (h : evCallee (opd env) sto o = some (f, args) := by simp (disch := (first | omega | assumption | ((repeat' with_reducible apply And.intro) <;> first | omega | assumption | rfl | (apply Or.inl; rfl) | (apply Or.inr; first | rfl | trivial | fail) | fail) | fail)) only [go_sem, if_pos, if_neg, wrapI, wrapU, decide_eq_true, decide_eq_false, beqT, beqF, bneT, bneF, hp0, hg] <;> rfl) : EvOps T X n0 lo wt draw ops Q (o :: rest) ⟨env, sto⟩ := k.elim fun _ k => ops_call hg h k.1 k.2
set_option linter.unusedSimpArgs false
set_option linter.unusedVariables false
set_option maxRecDepth 100000
set_option maxHeartbeats 20000000
theorem ho_mp {n0 lo : Nat} {sto l l' : Sto} {id : Nat} {kvs : List (Int × V)} {X : Ent} (hn : n0 ≤ sto.length) (hid : id < sto.length) : ∀ i es, lo ≤ i → i < n0 → (sto.set id (.map .i64 kvs) ++ l)[i]? = some (.cells es) → (sto.set id X ++ l')[i]? = some (.cells es) ∨ scopedL n0 es = true := by
  intro i es _ hi h
  rw [List.getElem?_append_left (by simp; omega)] at h ⊢
  rcases Nat.decEq id i with hne | rfl
  · rw [List.getElem?_set_ne hne] at h ⊢; exact .inl h
  · rw [List.getElem?_set_self hid] at h; cases h
/-- The entry of the checker's map. -/
abbrev mpE (mp : List (Int × Int)) : Ent := .map .i64 (mapV mp)
theorem c_sto {T : Tab} {X : CallP} {n0 lo : Nat} {wt : List Tmp} {c : Code} {R : Exit → St → Prop} {env : List D} {sto sto' : Sto} (h : sto' = sto) (k : EvC T X n0 lo wt c R ⟨env, sto'⟩) : EvC T X n0 lo wt c R ⟨env, sto⟩ := h ▸ k
def snd4 : Code → Code
  | .seq _ (.seq _ (.seq _ (.seq _ c))) => c
  | c => c
/-- The code behind the kids. -/
def tyTail (f : Func) : Code := match f.body with
  | some c => snd4 c
  | none => .skip
theorem c_is {T : Tab} {X : CallP} {n0 lo : Nat} {wt : List Tmp} {c c' : Code} {R : Exit → St → Prop} {st : St} (h : c = c') (k : EvC T X n0 lo wt c' R st) : EvC T X n0 lo wt c R st := h ▸ k
end Go.Proofs.YtomameefmobnlaaDoor
namespace Go.Proofs.YtomameefmobnlaaDoor
open Go Go.RowKit

attribute [local irreducible] EvOps EvC
attribute [local go_sem] List.getElem?_toArray getS List.flatten_cons List.flatten_nil List.contains_nil List.append_nil List.length_set
set_option linter.unusedSimpArgs false
set_option linter.unusedVariables false
set_option maxRecDepth 100000
set_option maxHeartbeats 4000000
def tlS : Nat → Code → Code
  | 0, c => c
  | k + 1, .seq _ c => tlS k c
  | _ + 1, c => c
def siTail (f : Func) : Code := match f.body with
  | some c => tlS 6 c
  | none => .skip
theorem rep_nodes (n : Nat) : (List.replicate n [VI 0, VI 0, VI 0, V.sl 0 []]).flatten = cellsTs (List.replicate n (.mk 0 0 0 [])) := by
  induction n with
  | zero => rfl
  | succ n ih => rw [List.replicate_succ, List.flatten_cons, ih, List.replicate_succ]; rfl
theorem zero25 : [Value.int .i64 0, .int .i64 0, .int .i64 0, .slice none 0 0].all (fun x => x.oneCell') = true := rfl
attribute [local go_sem] rep_nodes zero25 List.getElem_set_self List.contains_cons beq_self_eq_true Bool.true_or
theorem simp_pre (k n m : Int) (l rs : List Tr) (h0 : ¬ l.length = 0) (h1 : l.length < 1000000) (hr : rs.length = l.length) (hk : ∀ (i : Nat) (q1 : i < l.length) (q2 : i < rs.length) (sto : Sto) (lo : Nat), lo ≤ sto.length → CallEv Tryd.prog tab B0 34 [.v (TV l[i])] sto lo (.v (TV rs[i])) sto) (r : Tr) (sto : Sto) (lo : Nat) (hlo : lo ≤ sto.length)
    (htail : ∀ (js : List Ent) (s : St), (s.env.length = 136 ∧ s.sto = sto ++ .cells [.v (VI k), .v (VI n), .v (VI m), .v (.sl rs.length (cellsTs rs))] :: .cells [.v (VI 0), .v (VI 0), .v (VI 0), .nilS] :: js ∧ s.env[1]? = some (.ptr sto.length 0) ∧ s.env[2]? = some (.ptr (sto.length + 1) 0) ∧ s.env[3]? = some (.v (.sl rs.length (cellsTs rs))) ∧ s.env[4]? = some (.v (.bool (rs.all isC)))) → EvC tab (CallEv Tryd.prog tab B0) sto.length lo [19] (siTail Tryd.f34) (bodyP tab Tryd.f34 sto.length (.v (TV r)) sto) s) :
    CallEv Tryd.prog tab B0 34 [.v (TV (.mk k n m l))] sto lo (.v (TV r)) sto := by
  refine CallEv.intro ⟨_, _, [19], Tryd.func34, rfl, by decide, ?_⟩; simp only [go_sem, Tryd.ntmps34]
  repeat' (first | (refine go ⟨?_⟩) | (fail) | ((first | (refine bsp ?_ ?_) | (refine csp ?_ ?_)); all_goals (intro hb; (fail_if_success (cases hb; done)); (try simp only [decide_eq_true_eq, decide_eq_false_iff_not, beq_iff_eq, bne_iff_ne, ne_eq, beq_eq_false_iff_ne, bne_eq_false_iff_eq, Bool.not_eq_true', Bool.not_eq_false', Bool.and_eq_true, Bool.or_eq_true, Decidable.not_not] at hb); (try simp only [go_sem]))))
  refine c_loop (fun mm s => ∃ (i : Nat) (b : Bool) (zs : List Tr) (js : List Ent), (i ≤ l.length ∧ mm = l.length - i ∧ zs.length = l.length ∧ zs.take i = rs.take i ∧ b = (rs.take i).all isC) ∧ (s.env.length = 136 ∧ s.sto = sto ++ .cells [.v (VI k), .v (VI n), .v (VI m), .v (.sl l.length (cellsTs l))] :: .cells [.v (VI 0), .v (VI 0), .v (VI 0), .nilS] :: .arr (some (25, 4)) true l.length (cellsTs zs) :: js ∧ s.env[1]? = some (.ptr sto.length 0) ∧ s.env[2]? = some (.ptr (sto.length + 1) 0) ∧ s.env[3]? = some (.arr (sto.length + 2) l.length) ∧ s.env[4]? = some (.v (.bool b)) ∧ s.env[21]? = some (.v (.sl l.length (cellsTs l))) ∧ s.env[22]? = some (.v (VI l.length)) ∧ s.env[23]? = some (.v (VI i)))) (.refl _) ⟨0, true, List.replicate l.length (.mk 0 0 0 []), [], ⟨by omega, rfl, by simp, by simp, by simp⟩, rfl, rfl, ?_, ?_, ?_, ?_, ?_, ?_, ?_⟩ ?_
  all_goals first | rfl | skip
  rintro mm s ⟨i, b, zs, js, ⟨h2, rfl, h3, h4, h5⟩, hL, hT, k1, k2, k3, k4, k21, k22, k23⟩
  obtain ⟨env, st0⟩ := s; obtain ⟨J, hJ⟩ := listJ hL; rw [show (List.range 136).map J = J 0 :: J 1 :: J 2 :: J 3 :: J 4 :: J 5 :: J 6 :: J 7 :: J 8 :: J 9 :: J 10 :: J 11 :: J 12 :: J 13 :: J 14 :: J 15 :: J 16 :: J 17 :: J 18 :: J 19 :: J 20 :: J 21 :: J 22 :: J 23 :: J 24 :: J 25 :: J 26 :: J 27 :: J 28 :: J 29 :: J 30 :: J 31 :: J 32 :: J 33 :: J 34 :: J 35 :: J 36 :: J 37 :: J 38 :: J 39 :: J 40 :: J 41 :: J 42 :: J 43 :: J 44 :: J 45 :: J 46 :: J 47 :: J 48 :: J 49 :: J 50 :: J 51 :: J 52 :: J 53 :: J 54 :: J 55 :: J 56 :: J 57 :: J 58 :: J 59 :: J 60 :: J 61 :: J 62 :: J 63 :: J 64 :: J 65 :: J 66 :: J 67 :: J 68 :: J 69 :: J 70 :: J 71 :: J 72 :: J 73 :: J 74 :: J 75 :: J 76 :: J 77 :: J 78 :: J 79 :: J 80 :: J 81 :: J 82 :: J 83 :: J 84 :: J 85 :: J 86 :: J 87 :: J 88 :: J 89 :: J 90 :: J 91 :: J 92 :: J 93 :: J 94 :: J 95 :: J 96 :: J 97 :: J 98 :: J 99 :: J 100 :: J 101 :: J 102 :: J 103 :: J 104 :: J 105 :: J 106 :: J 107 :: J 108 :: J 109 :: J 110 :: J 111 :: J 112 :: J 113 :: J 114 :: J 115 :: J 116 :: J 117 :: J 118 :: J 119 :: J 120 :: J 121 :: J 122 :: J 123 :: J 124 :: J 125 :: J 126 :: J 127 :: J 128 :: J 129 :: J 130 :: J 131 :: J 132 :: J 133 :: J 134 :: J 135 :: [] from by kernel_rfl] at hJ; replace k1 := Option.some.inj ((congrArg (·[1]?) hJ).symm.trans k1); replace k2 := Option.some.inj ((congrArg (·[2]?) hJ).symm.trans k2); replace k3 := Option.some.inj ((congrArg (·[3]?) hJ).symm.trans k3); replace k4 := Option.some.inj ((congrArg (·[4]?) hJ).symm.trans k4); replace k21 := Option.some.inj ((congrArg (·[21]?) hJ).symm.trans k21); replace k22 := Option.some.inj ((congrArg (·[22]?) hJ).symm.trans k22); replace k23 := Option.some.inj ((congrArg (·[23]?) hJ).symm.trans k23); rw [k1, k2, k3, k4, k21, k22, k23] at hJ; dsimp only at hJ hT; subst hJ; replace hT := hT.symm; subst hT; clear hL k1 k2 k3 k4 k21 k22 k23
  by_cases hi : i < l.length
  · have hir : i < rs.length := by omega
    have hkk := fun sto lo hlo => hk i hi hir sto lo hlo
    clear hk htail
    have hn1 : ∀ t : Tr, rs[i] = t → (zs.set i t).take (i + 1) = rs.take (i + 1) := fun t e => by
      rw [List.take_succ_eq_append_getElem (by simpa using by omega), List.getElem_set_self, List.take_set_of_le (by omega), h4, List.take_succ_eq_append_getElem hir, e]
    have hn2 : ∀ t : Tr, rs[i] = t → (rs.take (i + 1)).all isC = (b && isC t) := fun t e => by
      rw [List.take_succ_eq_append_getElem hir, List.all_append, ← h5, e]; simp
    generalize htt : l[i] = t at *
    generalize htr : rs[i] = tr at *
    have hn1' := hn1 tr rfl
    have hn2' := hn2 tr rfl
    have hset := cellsTs_set (l := zs) (i := i) (by omega) tr
    have hcc := fun sto lo hlo => constant_ev tr sto lo hlo
    clear hn1 hn2 h5 h4
    generalize isC tr = c at *
    obtain ⟨k2, n2, m2, l2⟩ := t
    obtain ⟨k3, n3, m3, l3⟩ := tr
    simp only [cellsT, List.cons_append, List.nil_append] at hset
    have hzl : (zs.set i (.mk k3 n3 m3 l3)).length = l.length := by simpa using h3
    repeat' (first | (refine go ⟨?_⟩) | (fail) | ((first | (refine bsp ?_ ?_) | (refine csp ?_ ?_)); all_goals (intro hb; (fail_if_success (cases hb; done)); (try simp only [decide_eq_true_eq, decide_eq_false_iff_not, beq_iff_eq, bne_iff_ne, ne_eq, beq_eq_false_iff_ne, bne_eq_false_iff_eq, Bool.not_eq_true', Bool.not_eq_false', Bool.and_eq_true, Bool.or_eq_true, Decidable.not_not] at hb); (try simp only [go_sem]))))
    rw [htt]
    cases b with
    | true =>
      repeat' (first | (refine go ⟨?_⟩) | (first | ((refine call ?_); (refine ⟨_, hkk _ _ (by first | omega | (simp; done) | (simp; omega)), ?_⟩); (try simp only [go_sem])) | ((refine call ?_); (refine ⟨_, hcc _ _ (by first | omega | (simp; done) | (simp; omega)), ?_⟩); (try simp only [go_sem]))) | ((first | (refine bsp ?_ ?_) | (refine csp ?_ ?_)); all_goals (intro hb; (fail_if_success (cases hb; done)); (try simp only [decide_eq_true_eq, decide_eq_false_iff_not, beq_iff_eq, bne_iff_ne, ne_eq, beq_eq_false_iff_ne, bne_eq_false_iff_eq, Bool.not_eq_true', Bool.not_eq_false', Bool.and_eq_true, Bool.or_eq_true, Decidable.not_not] at hb); (try simp only [go_sem]))))
      rw [hset]
      repeat' (first | (refine go ⟨?_⟩) | (first | ((refine call ?_); (refine ⟨_, hkk _ _ (by first | omega | (simp; done) | (simp; omega)), ?_⟩); (try simp only [go_sem])) | ((refine call ?_); (refine ⟨_, hcc _ _ (by first | omega | (simp; done) | (simp; omega)), ?_⟩); (try simp only [go_sem]))) | ((first | (refine bsp ?_ ?_) | (refine csp ?_ ?_)); all_goals (intro hb; (fail_if_success (cases hb; done)); (try simp only [decide_eq_true_eq, decide_eq_false_iff_not, beq_iff_eq, bne_iff_ne, ne_eq, beq_eq_false_iff_ne, bne_eq_false_iff_eq, Bool.not_eq_true', Bool.not_eq_false', Bool.and_eq_true, Bool.or_eq_true, Decidable.not_not] at hb); (try simp only [go_sem]))))
      refine ⟨_, _, ?_, .refl _, i + 1, c, zs.set i (.mk k3 n3 m3 l3), _, ⟨by omega, rfl, hzl, hn1', hn2'.symm⟩, rfl, rfl, ?_, ?_, ?_, ?_, ?_, ?_, ?_⟩
      · omega
      all_goals rfl
    | false =>
      repeat' (first | (refine go ⟨?_⟩) | (((refine call ?_); (refine ⟨_, hkk _ _ (by first | omega | (simp; done) | (simp; omega)), ?_⟩); (try simp only [go_sem]))) | ((first | (refine bsp ?_ ?_) | (refine csp ?_ ?_)); all_goals (intro hb; (fail_if_success (cases hb; done)); (try simp only [decide_eq_true_eq, decide_eq_false_iff_not, beq_iff_eq, bne_iff_ne, ne_eq, beq_eq_false_iff_ne, bne_eq_false_iff_eq, Bool.not_eq_true', Bool.not_eq_false', Bool.and_eq_true, Bool.or_eq_true, Decidable.not_not] at hb); (try simp only [go_sem]))))
      rw [hset]
      repeat' (first | (refine go ⟨?_⟩) | (fail) | ((first | (refine bsp ?_ ?_) | (refine csp ?_ ?_)); all_goals (intro hb; (fail_if_success (cases hb; done)); (try simp only [decide_eq_true_eq, decide_eq_false_iff_not, beq_iff_eq, bne_iff_ne, ne_eq, beq_eq_false_iff_ne, bne_eq_false_iff_eq, Bool.not_eq_true', Bool.not_eq_false', Bool.and_eq_true, Bool.or_eq_true, Decidable.not_not] at hb); (try simp only [go_sem]))))
      refine ⟨_, _, ?_, .refl _, i + 1, false, zs.set i (.mk k3 n3 m3 l3), _, ⟨by omega, rfl, hzl, hn1', hn2'.symm⟩, rfl, rfl, ?_, ?_, ?_, ?_, ?_, ?_, ?_⟩
      · omega
      all_goals rfl
  · rw [List.take_of_length_le (by omega), List.take_of_length_le (by omega)] at h4
    rw [List.take_of_length_le (by omega)] at h5
    subst h4 h5
    clear hk
    (try refine goX ⟨?_⟩)
    refine c_region_g (.trans (.share _ [sto.length + 2]) (.view _ 3 _ (.sl zs.length (cellsTs zs)) (by simp (disch := (first | omega | assumption | ((repeat' with_reducible apply And.intro) <;> first | omega | assumption | rfl | (apply Or.inl; rfl) | (apply Or.inr; first | rfl | trivial | fail) | fail) | fail)) only [go_sem, if_pos, if_neg, wrapI, wrapU, decide_eq_true, decide_eq_false, beqT, beqF, bneT, bneF] <;> rfl) (by simp (disch := (first | omega | assumption | ((repeat' with_reducible apply And.intro) <;> first | omega | assumption | rfl | (apply Or.inl; rfl) | (apply Or.inr; first | rfl | trivial | fail) | fail) | fail)) only [go_sem, if_pos, if_neg, wrapI, wrapU, decide_eq_true, decide_eq_false, beqT, beqF, bneT, bneF] <;> simp only [h3]))) (by intro h; cases h) ?_
    simp (disch := (first | omega | assumption | ((repeat' with_reducible apply And.intro) <;> first | omega | assumption | rfl | (apply Or.inl; rfl) | (apply Or.inr; first | rfl | trivial | fail) | fail) | fail)) only [go_sem, if_pos, if_neg, wrapI, wrapU, decide_eq_true, decide_eq_false, beqT, beqF, bneT, bneF]
    (try refine goX ⟨?_⟩)
    (with_reducible refine c_region ?_)
    (repeat (first | ((with_reducible apply ops_pure); rfl; (simp (disch := (first | omega | assumption | ((repeat' with_reducible apply And.intro) <;> first | omega | assumption | rfl | (apply Or.inl; rfl) | (apply Or.inr; first | rfl | trivial | fail) | fail) | fail)) only [go_sem, if_pos, if_neg, wrapI, wrapU, decide_eq_true, decide_eq_false, beqT, beqF, bneT, bneF] <;> rfl); simp only [go_sem]) | ((with_reducible apply ops_eff); decide; rfl; (simp (disch := (first | omega | assumption | ((repeat' with_reducible apply And.intro) <;> first | omega | assumption | rfl | (apply Or.inl; rfl) | (apply Or.inr; first | rfl | trivial | fail) | fail) | fail)) only [go_sem, if_pos, if_neg, wrapI, wrapU, decide_eq_true, decide_eq_false, beqT, beqF, bneT, bneF] <;> rfl); simp only [go_sem]) | ((with_reducible apply ops_skip); rfl; simp only [go_sem])))
    (with_reducible refine ops_nil ?_)
    (with_reducible refine then_normal ?_)
    refine c_is (c' := siTail Tryd.f34) ?_ (htail (.arr (some (25, 4)) false l.length (cellsTs zs) :: js) _ ⟨rfl, rfl, ?_, ?_, ?_, ?_⟩)
    · unfold siTail; dsimp only [Tryd.f34, tlS]
    all_goals first | rfl | skip
end Go.Proofs.YtomameefmobnlaaDoor
namespace Go.Proofs.YtomameefmobnlaaDoor
open Go Go.RowKit

attribute [local irreducible] EvOps EvC
attribute [local go_sem] List.getElem?_toArray getS List.flatten_cons List.flatten_nil List.contains_nil List.append_nil List.length_set
set_option linter.unusedSimpArgs false
set_option linter.unusedVariables false
set_option maxRecDepth 100000
set_option maxHeartbeats 8000000
theorem si_con (k n m : Int) (rs : List Tr) (ty v : Int) (hty : ty = 0 ∨ ty = 1) (hc : rs.all isC = true)
    (hva : ∀ sto lo, lo ≤ sto.length → CallEv Tryd.prog tab B0 13 [.v (TV (.mk k n m rs))] sto lo (.v (.tup [VI ty, .bool true])) sto)
    (hev : ∀ sto lo, lo ≤ sto.length → CallEv Tryd.prog tab B0 20 [.v (TV (.mk k n m rs)), .v (LI [])] sto lo (.v (VI v)) sto)
    (sto : Sto) (lo : Nat) (hlo : lo ≤ sto.length) (js : List Ent) (s : St) (hB : (s.env.length = 136 ∧ s.sto = sto ++ .cells [.v (VI k), .v (VI n), .v (VI m), .v (.sl rs.length (cellsTs rs))] :: .cells [.v (VI 0), .v (VI 0), .v (VI 0), .nilS] :: js ∧ s.env[1]? = some (.ptr sto.length 0) ∧ s.env[2]? = some (.ptr (sto.length + 1) 0) ∧ s.env[3]? = some (.v (.sl rs.length (cellsTs rs))) ∧ s.env[4]? = some (.v (.bool (rs.all isC))))) : EvC tab (CallEv Tryd.prog tab B0) sto.length lo [19] (siTail Tryd.f34) (bodyP tab Tryd.f34 sto.length (.v (TV (.mk (4 + ty) v 0 []))) sto) s := by
  rw [hc] at hB
  clear hc
  revert hB
  rintro ⟨hL, hT, k1, k2, k3, k4⟩
  obtain ⟨env, st0⟩ := s; obtain ⟨J, hJ⟩ := listJ hL; rw [show (List.range 136).map J = J 0 :: J 1 :: J 2 :: J 3 :: J 4 :: J 5 :: J 6 :: J 7 :: J 8 :: J 9 :: J 10 :: J 11 :: J 12 :: J 13 :: J 14 :: J 15 :: J 16 :: J 17 :: J 18 :: J 19 :: J 20 :: J 21 :: J 22 :: J 23 :: J 24 :: J 25 :: J 26 :: J 27 :: J 28 :: J 29 :: J 30 :: J 31 :: J 32 :: J 33 :: J 34 :: J 35 :: J 36 :: J 37 :: J 38 :: J 39 :: J 40 :: J 41 :: J 42 :: J 43 :: J 44 :: J 45 :: J 46 :: J 47 :: J 48 :: J 49 :: J 50 :: J 51 :: J 52 :: J 53 :: J 54 :: J 55 :: J 56 :: J 57 :: J 58 :: J 59 :: J 60 :: J 61 :: J 62 :: J 63 :: J 64 :: J 65 :: J 66 :: J 67 :: J 68 :: J 69 :: J 70 :: J 71 :: J 72 :: J 73 :: J 74 :: J 75 :: J 76 :: J 77 :: J 78 :: J 79 :: J 80 :: J 81 :: J 82 :: J 83 :: J 84 :: J 85 :: J 86 :: J 87 :: J 88 :: J 89 :: J 90 :: J 91 :: J 92 :: J 93 :: J 94 :: J 95 :: J 96 :: J 97 :: J 98 :: J 99 :: J 100 :: J 101 :: J 102 :: J 103 :: J 104 :: J 105 :: J 106 :: J 107 :: J 108 :: J 109 :: J 110 :: J 111 :: J 112 :: J 113 :: J 114 :: J 115 :: J 116 :: J 117 :: J 118 :: J 119 :: J 120 :: J 121 :: J 122 :: J 123 :: J 124 :: J 125 :: J 126 :: J 127 :: J 128 :: J 129 :: J 130 :: J 131 :: J 132 :: J 133 :: J 134 :: J 135 :: [] from by kernel_rfl] at hJ; replace k1 := Option.some.inj ((congrArg (·[1]?) hJ).symm.trans k1); replace k2 := Option.some.inj ((congrArg (·[2]?) hJ).symm.trans k2); replace k3 := Option.some.inj ((congrArg (·[3]?) hJ).symm.trans k3); replace k4 := Option.some.inj ((congrArg (·[4]?) hJ).symm.trans k4); rw [k1, k2, k3, k4] at hJ; dsimp only at hJ hT; subst hJ; replace hT := hT.symm; subst hT; clear hL k1 k2 k3 k4
  refine c_is (by unfold siTail; dsimp only [Tryd.f34, tlS]) ?_
  rcases hty with rfl | rfl
  all_goals
    repeat' (first | (refine go ⟨?_⟩) | (first | ((refine call ?_); (refine ⟨_, hva _ _ (by first | omega | (simp; done) | (simp; omega)), ?_⟩); (try simp only [go_sem])) | ((refine call ?_); (refine ⟨_, hev _ _ (by first | omega | (simp; done) | (simp; omega)), ?_⟩); (try simp only [go_sem]))) | ((first | (refine bsp ?_ ?_) | (refine csp ?_ ?_)); all_goals (intro hb; (fail_if_success (cases hb; done)); (try simp only [decide_eq_true_eq, decide_eq_false_iff_not, beq_iff_eq, bne_iff_ne, ne_eq, beq_eq_false_iff_ne, bne_eq_false_iff_eq, Bool.not_eq_true', Bool.not_eq_false', Bool.and_eq_true, Bool.or_eq_true, Decidable.not_not] at hb); (try simp only [go_sem]))))
    refine ⟨by first | exact .inr rfl | exact .inl rfl, .inl ⟨[], _, (by dsimp only [Tryd.f34]; exact sv), ?_, by simp⟩⟩
    rfl
theorem si_bin (n m : Int) (rs : List Tr) (r : Tr)
    (hbi : ∀ sto lo, lo ≤ sto.length → CallEv Tryd.prog tab B0 60 [.v (TV (.mk 9 n m rs))] sto lo (.v (TV r)) sto)
    (sto : Sto) (lo : Nat) (hlo : lo ≤ sto.length) (js : List Ent) (s : St) (hB : (s.env.length = 136 ∧ s.sto = sto ++ .cells [.v (VI 9), .v (VI n), .v (VI m), .v (.sl rs.length (cellsTs rs))] :: .cells [.v (VI 0), .v (VI 0), .v (VI 0), .nilS] :: js ∧ s.env[1]? = some (.ptr sto.length 0) ∧ s.env[2]? = some (.ptr (sto.length + 1) 0) ∧ s.env[3]? = some (.v (.sl rs.length (cellsTs rs))) ∧ s.env[4]? = some (.v (.bool false)))) : EvC tab (CallEv Tryd.prog tab B0) sto.length lo [19] (siTail Tryd.f34) (bodyP tab Tryd.f34 sto.length (.v (TV r)) sto) s := by
  revert hB
  rintro ⟨hL, hT, k1, k2, k3, k4⟩
  obtain ⟨env, st0⟩ := s; obtain ⟨J, hJ⟩ := listJ hL; rw [show (List.range 136).map J = J 0 :: J 1 :: J 2 :: J 3 :: J 4 :: J 5 :: J 6 :: J 7 :: J 8 :: J 9 :: J 10 :: J 11 :: J 12 :: J 13 :: J 14 :: J 15 :: J 16 :: J 17 :: J 18 :: J 19 :: J 20 :: J 21 :: J 22 :: J 23 :: J 24 :: J 25 :: J 26 :: J 27 :: J 28 :: J 29 :: J 30 :: J 31 :: J 32 :: J 33 :: J 34 :: J 35 :: J 36 :: J 37 :: J 38 :: J 39 :: J 40 :: J 41 :: J 42 :: J 43 :: J 44 :: J 45 :: J 46 :: J 47 :: J 48 :: J 49 :: J 50 :: J 51 :: J 52 :: J 53 :: J 54 :: J 55 :: J 56 :: J 57 :: J 58 :: J 59 :: J 60 :: J 61 :: J 62 :: J 63 :: J 64 :: J 65 :: J 66 :: J 67 :: J 68 :: J 69 :: J 70 :: J 71 :: J 72 :: J 73 :: J 74 :: J 75 :: J 76 :: J 77 :: J 78 :: J 79 :: J 80 :: J 81 :: J 82 :: J 83 :: J 84 :: J 85 :: J 86 :: J 87 :: J 88 :: J 89 :: J 90 :: J 91 :: J 92 :: J 93 :: J 94 :: J 95 :: J 96 :: J 97 :: J 98 :: J 99 :: J 100 :: J 101 :: J 102 :: J 103 :: J 104 :: J 105 :: J 106 :: J 107 :: J 108 :: J 109 :: J 110 :: J 111 :: J 112 :: J 113 :: J 114 :: J 115 :: J 116 :: J 117 :: J 118 :: J 119 :: J 120 :: J 121 :: J 122 :: J 123 :: J 124 :: J 125 :: J 126 :: J 127 :: J 128 :: J 129 :: J 130 :: J 131 :: J 132 :: J 133 :: J 134 :: J 135 :: [] from by kernel_rfl] at hJ; replace k1 := Option.some.inj ((congrArg (·[1]?) hJ).symm.trans k1); replace k2 := Option.some.inj ((congrArg (·[2]?) hJ).symm.trans k2); replace k3 := Option.some.inj ((congrArg (·[3]?) hJ).symm.trans k3); replace k4 := Option.some.inj ((congrArg (·[4]?) hJ).symm.trans k4); rw [k1, k2, k3, k4] at hJ; dsimp only at hJ hT; subst hJ; replace hT := hT.symm; subst hT; clear hL k1 k2 k3 k4
  refine c_is (by unfold siTail; dsimp only [Tryd.f34, tlS]) ?_
  obtain ⟨k2, n2, m2, l2⟩ := r
  repeat' (first | (refine go ⟨?_⟩) | (((refine call ?_); (refine ⟨_, hbi _ _ (by first | omega | (simp; done) | (simp; omega)), ?_⟩); (try simp only [go_sem]))) | ((first | (refine bsp ?_ ?_) | (refine csp ?_ ?_)); all_goals (intro hb; (fail_if_success (cases hb; done)); (try simp only [decide_eq_true_eq, decide_eq_false_iff_not, beq_iff_eq, bne_iff_ne, ne_eq, beq_eq_false_iff_ne, bne_eq_false_iff_eq, Bool.not_eq_true', Bool.not_eq_false', Bool.and_eq_true, Bool.or_eq_true, Decidable.not_not] at hb); (try simp only [go_sem]))))
  refine ⟨by first | exact .inr rfl | exact .inl rfl, .inl ⟨[], _, (by dsimp only [Tryd.f34]; exact sv), ?_, by simp⟩⟩
  rfl
theorem si_not (n m k2 n2 m2 : Int) (l2 : List Tr) (h : k2 ≠ 10)
    (sto : Sto) (lo : Nat) (hlo : lo ≤ sto.length) (js : List Ent) (s : St) (hB : (s.env.length = 136 ∧ s.sto = sto ++ .cells [.v (VI 10), .v (VI n), .v (VI m), .v (.sl 1 (cellsTs [.mk k2 n2 m2 l2]))] :: .cells [.v (VI 0), .v (VI 0), .v (VI 0), .nilS] :: js ∧ s.env[1]? = some (.ptr sto.length 0) ∧ s.env[2]? = some (.ptr (sto.length + 1) 0) ∧ s.env[3]? = some (.v (.sl 1 (cellsTs [.mk k2 n2 m2 l2]))) ∧ s.env[4]? = some (.v (.bool false)))) : EvC tab (CallEv Tryd.prog tab B0) sto.length lo [19] (siTail Tryd.f34) (bodyP tab Tryd.f34 sto.length (.v (TV (.mk 10 n m [.mk k2 n2 m2 l2]))) sto) s := by
  revert hB
  rintro ⟨hL, hT, k1, k2, k3, k4⟩
  obtain ⟨env, st0⟩ := s; obtain ⟨J, hJ⟩ := listJ hL; rw [show (List.range 136).map J = J 0 :: J 1 :: J 2 :: J 3 :: J 4 :: J 5 :: J 6 :: J 7 :: J 8 :: J 9 :: J 10 :: J 11 :: J 12 :: J 13 :: J 14 :: J 15 :: J 16 :: J 17 :: J 18 :: J 19 :: J 20 :: J 21 :: J 22 :: J 23 :: J 24 :: J 25 :: J 26 :: J 27 :: J 28 :: J 29 :: J 30 :: J 31 :: J 32 :: J 33 :: J 34 :: J 35 :: J 36 :: J 37 :: J 38 :: J 39 :: J 40 :: J 41 :: J 42 :: J 43 :: J 44 :: J 45 :: J 46 :: J 47 :: J 48 :: J 49 :: J 50 :: J 51 :: J 52 :: J 53 :: J 54 :: J 55 :: J 56 :: J 57 :: J 58 :: J 59 :: J 60 :: J 61 :: J 62 :: J 63 :: J 64 :: J 65 :: J 66 :: J 67 :: J 68 :: J 69 :: J 70 :: J 71 :: J 72 :: J 73 :: J 74 :: J 75 :: J 76 :: J 77 :: J 78 :: J 79 :: J 80 :: J 81 :: J 82 :: J 83 :: J 84 :: J 85 :: J 86 :: J 87 :: J 88 :: J 89 :: J 90 :: J 91 :: J 92 :: J 93 :: J 94 :: J 95 :: J 96 :: J 97 :: J 98 :: J 99 :: J 100 :: J 101 :: J 102 :: J 103 :: J 104 :: J 105 :: J 106 :: J 107 :: J 108 :: J 109 :: J 110 :: J 111 :: J 112 :: J 113 :: J 114 :: J 115 :: J 116 :: J 117 :: J 118 :: J 119 :: J 120 :: J 121 :: J 122 :: J 123 :: J 124 :: J 125 :: J 126 :: J 127 :: J 128 :: J 129 :: J 130 :: J 131 :: J 132 :: J 133 :: J 134 :: J 135 :: [] from by kernel_rfl] at hJ; replace k1 := Option.some.inj ((congrArg (·[1]?) hJ).symm.trans k1); replace k2 := Option.some.inj ((congrArg (·[2]?) hJ).symm.trans k2); replace k3 := Option.some.inj ((congrArg (·[3]?) hJ).symm.trans k3); replace k4 := Option.some.inj ((congrArg (·[4]?) hJ).symm.trans k4); rw [k1, k2, k3, k4] at hJ; dsimp only at hJ hT; subst hJ; replace hT := hT.symm; subst hT; clear hL k1 k2 k3 k4
  refine c_is (by unfold siTail; dsimp only [Tryd.f34, tlS]) ?_
  repeat' (first | (refine go ⟨?_⟩) | (fail) | ((first | (refine bsp ?_ ?_) | (refine csp ?_ ?_)); all_goals (intro hb; (fail_if_success (cases hb; done)); (try simp only [decide_eq_true_eq, decide_eq_false_iff_not, beq_iff_eq, bne_iff_ne, ne_eq, beq_eq_false_iff_ne, bne_eq_false_iff_eq, Bool.not_eq_true', Bool.not_eq_false', Bool.and_eq_true, Bool.or_eq_true, Decidable.not_not] at hb); (try simp only [go_sem]))))
  refine ⟨by first | exact .inr rfl | exact .inl rfl, .inl ⟨[], _, (by dsimp only [Tryd.f34]; exact sv), ?_, by simp⟩⟩
  rfl
theorem si_notnot (n m n2 m2 k3 n3 m3 : Int) (l3 : List Tr)
    (sto : Sto) (lo : Nat) (hlo : lo ≤ sto.length) (js : List Ent) (s : St) (hB : (s.env.length = 136 ∧ s.sto = sto ++ .cells [.v (VI 10), .v (VI n), .v (VI m), .v (.sl 1 (cellsTs [.mk 10 n2 m2 [.mk k3 n3 m3 l3]]))] :: .cells [.v (VI 0), .v (VI 0), .v (VI 0), .nilS] :: js ∧ s.env[1]? = some (.ptr sto.length 0) ∧ s.env[2]? = some (.ptr (sto.length + 1) 0) ∧ s.env[3]? = some (.v (.sl 1 (cellsTs [.mk 10 n2 m2 [.mk k3 n3 m3 l3]]))) ∧ s.env[4]? = some (.v (.bool false)))) : EvC tab (CallEv Tryd.prog tab B0) sto.length lo [19] (siTail Tryd.f34) (bodyP tab Tryd.f34 sto.length (.v (TV (.mk k3 n3 m3 l3))) sto) s := by
  revert hB
  rintro ⟨hL, hT, k1, k2, k3, k4⟩
  obtain ⟨env, st0⟩ := s; obtain ⟨J, hJ⟩ := listJ hL; rw [show (List.range 136).map J = J 0 :: J 1 :: J 2 :: J 3 :: J 4 :: J 5 :: J 6 :: J 7 :: J 8 :: J 9 :: J 10 :: J 11 :: J 12 :: J 13 :: J 14 :: J 15 :: J 16 :: J 17 :: J 18 :: J 19 :: J 20 :: J 21 :: J 22 :: J 23 :: J 24 :: J 25 :: J 26 :: J 27 :: J 28 :: J 29 :: J 30 :: J 31 :: J 32 :: J 33 :: J 34 :: J 35 :: J 36 :: J 37 :: J 38 :: J 39 :: J 40 :: J 41 :: J 42 :: J 43 :: J 44 :: J 45 :: J 46 :: J 47 :: J 48 :: J 49 :: J 50 :: J 51 :: J 52 :: J 53 :: J 54 :: J 55 :: J 56 :: J 57 :: J 58 :: J 59 :: J 60 :: J 61 :: J 62 :: J 63 :: J 64 :: J 65 :: J 66 :: J 67 :: J 68 :: J 69 :: J 70 :: J 71 :: J 72 :: J 73 :: J 74 :: J 75 :: J 76 :: J 77 :: J 78 :: J 79 :: J 80 :: J 81 :: J 82 :: J 83 :: J 84 :: J 85 :: J 86 :: J 87 :: J 88 :: J 89 :: J 90 :: J 91 :: J 92 :: J 93 :: J 94 :: J 95 :: J 96 :: J 97 :: J 98 :: J 99 :: J 100 :: J 101 :: J 102 :: J 103 :: J 104 :: J 105 :: J 106 :: J 107 :: J 108 :: J 109 :: J 110 :: J 111 :: J 112 :: J 113 :: J 114 :: J 115 :: J 116 :: J 117 :: J 118 :: J 119 :: J 120 :: J 121 :: J 122 :: J 123 :: J 124 :: J 125 :: J 126 :: J 127 :: J 128 :: J 129 :: J 130 :: J 131 :: J 132 :: J 133 :: J 134 :: J 135 :: [] from by kernel_rfl] at hJ; replace k1 := Option.some.inj ((congrArg (·[1]?) hJ).symm.trans k1); replace k2 := Option.some.inj ((congrArg (·[2]?) hJ).symm.trans k2); replace k3 := Option.some.inj ((congrArg (·[3]?) hJ).symm.trans k3); replace k4 := Option.some.inj ((congrArg (·[4]?) hJ).symm.trans k4); rw [k1, k2, k3, k4] at hJ; dsimp only at hJ hT; subst hJ; replace hT := hT.symm; subst hT; clear hL k1 k2 k3 k4
  refine c_is (by unfold siTail; dsimp only [Tryd.f34, tlS]) ?_
  repeat' (first | (refine go ⟨?_⟩) | (fail) | ((first | (refine bsp ?_ ?_) | (refine csp ?_ ?_)); all_goals (intro hb; (fail_if_success (cases hb; done)); (try simp only [decide_eq_true_eq, decide_eq_false_iff_not, beq_iff_eq, bne_iff_ne, ne_eq, beq_eq_false_iff_ne, bne_eq_false_iff_eq, Bool.not_eq_true', Bool.not_eq_false', Bool.and_eq_true, Bool.or_eq_true, Decidable.not_not] at hb); (try simp only [go_sem]))))
  refine ⟨by first | exact .inr rfl | exact .inl rfl, .inl ⟨[], _, (by dsimp only [Tryd.f34]; exact sv), ?_, by simp⟩⟩
  rfl
end Go.Proofs.YtomameefmobnlaaDoor
