/-
  Terms: the reference's Term. No condition of its own. Terms: the examples of the section, over what Valid answers. No condition of its own. Terms: the reference's Values, in a slice of the caller's. No condition of its own. Terms: the law TermParts, over what Valid answers. No condition of its own. Trees: the package's Size; word.Truth. No condition of its own. Terms: the package's types: the state behind the kids, and the rest of the code. No condition of its own.
-/
import Derived.Test.YtomameefmobnlaaDoorM6
import Derived.Test.YtomameefmobnlaaDoorM3
import Derived.Test.YtomameefmobnlaaDoorM5
import Derived.Test.YtomameefmobnlaaDoorM2
namespace Go.Proofs.YtomameefmobnlaaDoor
open Go Go.RowKit

attribute [local irreducible] EvOps EvC
attribute [local go_sem] List.getElem?_toArray List.flatten_cons List.flatten_nil List.contains_nil cellsTs List.append_nil
set_option linter.unusedSimpArgs false
set_option linter.unusedVariables false
set_option maxRecDepth 100000
set_option maxHeartbeats 4000000
/-- The numbers of which a term is made: a list that is not too long, of numbers. -/
structure NumL (l : List Int) : Prop where
  len : l.length < 9223372036854775808
  big : ∀ x ∈ l, Big x
theorem term_ev (l : List Int) (kind : Int) (hl : NumL l) (hk : Big kind) (sto : Sto) (lo : Nat) (hlo : lo ≤ sto.length) : CallEv Tryd.prog tab B0 9 [.v (LI l), .v (VI kind)] sto lo (.v (TV (termS l kind))) sto := by
  have har := fun sto lo hlo => around_ev kind 2 hk (by omega) (by omega) sto lo hlo
  have hb := aroundS_bound (n := kind) (most := 2) (by omega)
  have hm := fun sto' h5 hlid h6 => make_ev l hl.len hl.big (sto.length + 1) 4 (aroundS kind 2) 0 14 4 sto' lo (by omega) rfl (by omega) (by omega) (by decide) (by decide) (by omega) h5 hlid h6
  unfold termS
  generalize aroundS kind 2 = k at *
  generalize makeS l 4 k 0 14 = c at *
  obtain ⟨⟨k1, n1, q1, l1⟩, a1, g1⟩ := c
  refine CallEv.intro ⟨_, _, [], Tryd.func9, rfl, by decide, ?_⟩; simp only [go_sem, Tryd.ntmps9]
  (try refine go ⟨?_⟩)
  ((refine call ?_); (refine ⟨_, har _ _ (by first | omega | (simp; done) | (simp; omega)), ?_⟩); (try simp only [go_sem]))
  (try refine go ⟨?_⟩)
  (with_reducible apply ops_callW); rfl; (simp (disch := (first | omega | assumption | ((repeat' with_reducible apply And.intro) <;> first | omega | assumption | rfl | (apply Or.inl; rfl) | (apply Or.inr; first | rfl | trivial | fail) | fail) | fail)) only [go_sem, if_pos, if_neg, wrapI, wrapU, decide_eq_true, decide_eq_false, beqT, beqF, bneT, bneF] <;> rfl); (exact hm _ (by simp (disch := (first | omega | assumption | ((repeat' with_reducible apply And.intro) <;> first | omega | assumption | rfl | (apply Or.inl; rfl) | (apply Or.inr; first | rfl | trivial | fail) | fail) | fail)) only [go_sem, if_pos, if_neg, wrapI, wrapU, decide_eq_true, decide_eq_false, beqT, beqF, bneT, bneF]) (by omega) (by first | omega | (simp; done) | (simp; omega)))
  · intro i ds h1 h2 h3
    left
    rw [List.set_append_right _ _ (by omega)] at h3
    rwa [List.getElem?_append_left (by omega)] at h3 ⊢
  (try simp (disch := (first | omega | assumption | ((repeat' with_reducible apply And.intro) <;> first | omega | assumption | rfl | (apply Or.inl; rfl) | (apply Or.inr; first | rfl | trivial | fail) | fail) | fail)) only [go_sem, if_pos, if_neg, wrapI, wrapU, decide_eq_true, decide_eq_false, beqT, beqF, bneT, bneF])
  (try refine go ⟨?_⟩)
  refine ⟨by first | exact .inr rfl | exact .inl rfl, .inl ⟨[], _, (by dsimp only [Tryd.f9]; exact sv), ?_, ?_⟩⟩
  · rfl
  · simp
end Go.Proofs.YtomameefmobnlaaDoor
namespace Go.Proofs.YtomameefmobnlaaDoor
open Go Go.RowKit

attribute [local irreducible] EvOps EvC
attribute [local go_sem] List.getElem?_toArray List.flatten_cons List.flatten_nil List.contains_nil List.append_nil cellsTs
set_option linter.unusedSimpArgs false
set_option linter.unusedVariables false
set_option maxRecDepth 100000
set_option maxHeartbeats 4000000
instance decBig (x : Int) : Decidable (Big x) := inferInstanceAs (Decidable (_ ∧ _))
/-- What Valid answers. -/
abbrev ValidP : Prop := ∀ (t : Tr) (sto : Sto) (lo : Nat), tsz t < 1000000 → lo ≤ sto.length → CallEv Tryd.prog tab B0 13 [.v (TV t)] sto lo (.v (.tup [VI (max (validS t) 0), .bool (decide (0 ≤ validS t))])) sto
theorem livesV_ev (hval : ValidP) (sto : Sto) (lo : Nat) (hlo : lo ≤ sto.length) : CallEv Tryd.prog tab sortB 15 [] sto lo (.v (.bool true)) sto := by
  have v1 := fun sto lo hlo => (refVar_ev 0 0 sto lo hlo).up0 (B := sortB)
  have v2 := fun sto lo hlo => (refVar_ev 1 1 sto lo hlo).up0 (B := sortB)
  have b1 := fun sto lo hlo => (refBin_ev 0 lx lnum sto lo hlo).up0 (B := sortB)
  have b2 := fun sto lo hlo => (refBin_ev 3 lx (.mk 4 0 0 []) sto lo hlo).up0 (B := sortB)
  have b3 := fun sto lo hlo => (refCond_ev lc lx (.mk 4 2 0 []) sto lo hlo).up0 (B := sortB)
  have b4 := fun sto lo hlo => (refBin_ev 10 lx (.mk 4 3 0 []) sto lo hlo).up0 (B := sortB)
  have b5 := fun sto lo hlo => (refNot_ev llt sto lo hlo).up0 (B := sortB)
  have b6 := fun sto lo hlo => (refCond_ev lx lx lnum sto lo hlo).up0 (B := sortB)
  have b7 := fun sto lo hlo => (refBin_ev 0 lnum lnum sto lo hlo).up0 (B := sortB)
  have g1 : ∀ x ∈ ([3] : List Int), Big x := by intro x hx; simp at hx; subst hx; exact ⟨by decide, by decide⟩
  have g2 : ∀ x ∈ ([5] : List Int), Big x := by intro x hx; simp at hx; subst hx; exact ⟨by decide, by decide⟩
  have g3 : ∀ x ∈ ([19] : List Int), Big x := by intro x hx; simp at hx; subst hx; exact ⟨by decide, by decide⟩
  have g4 : ∀ x ∈ ([5, 1] : List Int), Big x := by intro x hx; simp at hx; rcases hx with rfl | rfl <;> exact ⟨by decide, by decide⟩
  have c1 := fun sto lo hlo => (eval_ev [3] g1 (by decide) wsum sto lo hlo).up0 (B := sortB)
  have c2 := fun sto lo hlo => (eval_ev [3] g1 (by decide) wzero sto lo hlo).up0 (B := sortB)
  have c3 := fun sto lo hlo => (eval_ev [5, 1] g4 (by decide) wchoice sto lo hlo).up0 (B := sortB)
  have c4 := fun sto lo hlo => (eval_ev [5] g2 (by decide) wchoice sto lo hlo).up0 (B := sortB)
  have c5 := fun sto lo hlo => (eval_ev [19] g3 (by decide) wless sto lo hlo).up0 (B := sortB)
  have d1 := fun sto lo hlo => (hval lchoice sto lo (by decide) hlo).up0 (B := sortB)
  have d2 := fun sto lo hlo => (hval (.mk 29 0 0 [lx, lx, lnum]) sto lo (by decide) hlo).up0 (B := sortB)
  have d3 := fun sto lo hlo => vars_ev lchoice (by decide) (by decide) (by decide) sto lo hlo
  have d4 := fun sto lo hlo => (sameInts_ev [0, 1] [0, 1] (by decide) (by decide) sto lo hlo).up0 (B := sortB)
  have d5 := fun sto lo hlo => (putV_ev hval lsum [lnum] (by decide) (by decide) (by decide) sto lo hlo).up0 (B := sortB)
  have d6 := fun sto lo hlo => (same_ev (.mk 9 0 0 [lnum, lnum]) (.mk 9 0 0 [lnum, lnum]) (by decide) sto lo hlo).up0 (B := sortB)
  rw [e1] at c1
  rw [e2] at c2
  rw [e3] at c3
  rw [e4] at c4
  rw [e5] at c5
  rw [e6] at d1
  rw [e7] at d2
  unfold varsK at d3
  rw [e8] at d3
  rw [decide_eq_true rfl] at d4
  rw [e9] at d5
  rw [e10, decide_eq_true rfl] at d6
  clear hval g1 g2 g3 g4
  refine CallEv.intro ⟨_, _, [], Tryd.func15, rfl, by decide, ?_⟩; simp only [go_sem, Tryd.ntmps15]
  repeat' (first | (refine go ⟨?_⟩) | (first | ((refine call ?_); (refine ⟨_, v1 _ _ (by first | omega | (simp; done) | (simp; omega)), ?_⟩); (try simp only [go_sem])) | ((refine call ?_); (refine ⟨_, v2 _ _ (by first | omega | (simp; done) | (simp; omega)), ?_⟩); (try simp only [go_sem])) | ((refine call ?_); (refine ⟨_, b1 _ _ (by first | omega | (simp; done) | (simp; omega)), ?_⟩); (try simp only [go_sem])) | ((refine call ?_); (refine ⟨_, b2 _ _ (by first | omega | (simp; done) | (simp; omega)), ?_⟩); (try simp only [go_sem])) | ((refine call ?_); (refine ⟨_, b3 _ _ (by first | omega | (simp; done) | (simp; omega)), ?_⟩); (try simp only [go_sem])) | ((refine call ?_); (refine ⟨_, b4 _ _ (by first | omega | (simp; done) | (simp; omega)), ?_⟩); (try simp only [go_sem])) | ((refine call ?_); (refine ⟨_, b5 _ _ (by first | omega | (simp; done) | (simp; omega)), ?_⟩); (try simp only [go_sem])) | ((refine call ?_); (refine ⟨_, b6 _ _ (by first | omega | (simp; done) | (simp; omega)), ?_⟩); (try simp only [go_sem])) | ((refine call ?_); (refine ⟨_, b7 _ _ (by first | omega | (simp; done) | (simp; omega)), ?_⟩); (try simp only [go_sem])) | ((refine call ?_); (refine ⟨_, c1 _ _ (by first | omega | (simp; done) | (simp; omega)), ?_⟩); (try simp only [go_sem])) | ((refine call ?_); (refine ⟨_, c2 _ _ (by first | omega | (simp; done) | (simp; omega)), ?_⟩); (try simp only [go_sem])) | ((refine call ?_); (refine ⟨_, c3 _ _ (by first | omega | (simp; done) | (simp; omega)), ?_⟩); (try simp only [go_sem])) | ((refine call ?_); (refine ⟨_, c4 _ _ (by first | omega | (simp; done) | (simp; omega)), ?_⟩); (try simp only [go_sem])) | ((refine call ?_); (refine ⟨_, c5 _ _ (by first | omega | (simp; done) | (simp; omega)), ?_⟩); (try simp only [go_sem])) | ((refine call ?_); (refine ⟨_, d1 _ _ (by first | omega | (simp; done) | (simp; omega)), ?_⟩); (try simp only [go_sem])) | ((refine call ?_); (refine ⟨_, d2 _ _ (by first | omega | (simp; done) | (simp; omega)), ?_⟩); (try simp only [go_sem])) | ((refine call ?_); (refine ⟨_, d3 _ _ (by first | omega | (simp; done) | (simp; omega)), ?_⟩); (try simp only [go_sem])) | ((refine call ?_); (refine ⟨_, d4 _ _ (by first | omega | (simp; done) | (simp; omega)), ?_⟩); (try simp only [go_sem])) | ((refine call ?_); (refine ⟨_, d5 _ _ (by first | omega | (simp; done) | (simp; omega)), ?_⟩); (try simp only [go_sem])) | ((refine call ?_); (refine ⟨_, d6 _ _ (by first | omega | (simp; done) | (simp; omega)), ?_⟩); (try simp only [go_sem]))) | ((first | (refine bsp ?_ ?_) | (refine csp ?_ ?_)); all_goals (intro hb; (fail_if_success (cases hb; done)); (try simp only [decide_eq_true_eq, decide_eq_false_iff_not, beq_iff_eq, bne_iff_ne, ne_eq, beq_eq_false_iff_ne, bne_eq_false_iff_eq, Bool.not_eq_true', Bool.not_eq_false', Bool.and_eq_true, Bool.or_eq_true, Decidable.not_not] at hb); (try simp only [go_sem]))))
  refine ⟨by first | exact .inr rfl | exact .inl rfl, .inl ⟨[], _, (by dsimp only [Tryd.f15]; exact sv), ?_, by simp⟩⟩
  rfl
end Go.Proofs.YtomameefmobnlaaDoor
namespace Go.Proofs.YtomameefmobnlaaDoor
open Go Go.RowKit

attribute [local irreducible] EvOps EvC
attribute [local go_sem] List.getElem?_toArray getS List.flatten_cons List.flatten_nil List.contains_nil cellsTs List.append_nil List.contains_cons beq_self_eq_true Bool.true_or
set_option linter.unusedSimpArgs false
set_option linter.unusedVariables false
set_option maxRecDepth 100000
set_option maxHeartbeats 4000000
theorem valuesW_ev (n : Int) (hn : Big n) (sto : Sto) (lo : Nat) (hlo : lo ≤ sto.length) : CallEv Tryd.prog tab B0 19 [.v (VI n)] sto lo (.arr sto.length 4) (sto ++ [.arr (some (3, 1)) true 4 ((valuesS n).map VI)]) := by
  have har := fun sto lo hlo => around_ev n 1024 hn (by omega) (by omega) sto lo hlo
  have hb := aroundS_bound (n := n) (most := 1024) (by omega)
  unfold valuesS
  generalize aroundS n 1024 = k at *
  obtain ⟨k, rfl⟩ := Int.eq_ofNat_of_zero_le hb.1
  have e1 : (k : Int).tdiv 16 = ((k / 16 : Nat) : Int) := by rw [Int.tdiv_eq_ediv_of_nonneg (by omega)]; omega
  have e2 : (k : Int).tdiv 256 = ((k / 256 : Nat) : Int) := by rw [Int.tdiv_eq_ediv_of_nonneg (by omega)]; omega
  have e3 : (k : Int).tdiv 512 = ((k / 512 : Nat) : Int) := by rw [Int.tdiv_eq_ediv_of_nonneg (by omega)]; omega
  have m0 : 0 ≤ (k : Int).tmod 16 ∧ (k : Int).tmod 16 < 16 := by rw [Int.tmod_eq_emod_of_nonneg (by omega)]; omega
  have m1 : 0 ≤ ((k : Int).tdiv 16).tmod 16 ∧ ((k : Int).tdiv 16).tmod 16 < 16 := by rw [Int.tmod_eq_emod_of_nonneg (by omega)]; omega
  have d1 : 0 ≤ (k : Int).tdiv 16 ∧ (k : Int).tdiv 16 < 1024 := by omega
  have d2 : 0 ≤ (k : Int).tdiv 256 ∧ (k : Int).tdiv 256 < 1024 := by omega
  have d3 : 0 ≤ (k : Int).tdiv 512 ∧ (k : Int).tdiv 512 < 1024 := by omega
  clear e1 e2 e3
  refine CallEv.intro ⟨_, _, [17], Tryd.func19, rfl, by decide, ?_⟩; simp only [go_sem, Tryd.ntmps19]
  repeat' (first | (refine goL ⟨?_⟩) | (((refine call ?_); (refine ⟨_, har _ _ (by first | omega | (simp; done) | (simp; omega)), ?_⟩); (try simp only [go_sem]))) | ((first | (refine bsp ?_ ?_) | (refine csp ?_ ?_)); all_goals (intro hb; (fail_if_success (cases hb; done)); (try simp only [decide_eq_true_eq, decide_eq_false_iff_not, beq_iff_eq, bne_iff_ne, ne_eq, beq_eq_false_iff_ne, bne_eq_false_iff_eq, Bool.not_eq_true', Bool.not_eq_false', Bool.and_eq_true, Bool.or_eq_true, Decidable.not_not] at hb); (try simp only [go_sem]))))
  refine ⟨by first | exact .inr rfl | exact .inl rfl, .inr (.inr ⟨2, sto.length, 4, some (3, 1), true, [VI ((k : Int).tmod 16 - 8), VI (((k : Int).tdiv 16).tmod 16 - 8), VI (((k : Int).tdiv 256).tmod 2), VI ((k : Int).tdiv 512)], rfl, rfl, Nat.le_refl _, ?_, rfl, ?_⟩)⟩
  · simp (disch := (first | omega | assumption | ((repeat' with_reducible apply And.intro) <;> first | omega | assumption | rfl | (apply Or.inl; rfl) | (apply Or.inr; first | rfl | trivial | fail) | fail) | fail)) only [go_sem, if_pos, if_neg, wrapI, wrapU, decide_eq_true, decide_eq_false, beqT, beqF, bneT, bneF] <;> rfl
  · simp
end Go.Proofs.YtomameefmobnlaaDoor
namespace Go.Proofs.YtomameefmobnlaaDoor
open Go Go.RowKit

attribute [local irreducible] EvOps EvC
attribute [local go_sem] List.getElem?_toArray getS List.flatten_cons List.flatten_nil List.contains_nil List.append_nil List.length_set mapSet List.set_set List.getElem?_set_self
theorem tpgo {p q : Prop} (k : Later q) (h : Later q → p := by (intro k; (first | with_reducible (first | refine c_seq ?_ | refine c_block ?_ | refine c_region ?_ | refine c_skip ?_ | refine c_exit ?_ | refine c_ret ?_ | refine then_normal ?_ | refine then_exit ?_ | refine then_ret ?_ | refine block_normal ?_ | refine block_here ?_ | refine block_ret ?_ | refine block_far (by decide) ?_ | refine ops_nil ?_ | refine c_cond_t rfl ?_ | refine c_cond_f rfl ?_) | ((with_reducible apply ops_pure); rfl; (simp (disch := (first | omega | assumption | ((repeat' with_reducible apply And.intro) <;> first | omega | assumption | rfl | (apply Or.inl; rfl) | (apply Or.inr; first | rfl | trivial | fail) | fail) | fail)) only [go_sem, if_pos, if_neg, wrapI, wrapU, decide_eq_true, decide_eq_false, beqT, beqF, bneT, bneF, hkk, hvk0] <;> rfl); simp only [go_sem]) | ((with_reducible apply ops_pureF); rfl; (intro _; simp (disch := (first | omega | assumption | ((repeat' with_reducible apply And.intro) <;> first | omega | assumption | rfl | (apply Or.inl; rfl) | (apply Or.inr; first | rfl | trivial | fail) | fail) | fail)) only [go_sem, if_pos, if_neg, wrapI, wrapU, decide_eq_true, decide_eq_false, beqT, beqF, bneT, bneF, hkk, hvk0] <;> rfl); simp only [go_sem]) | ((with_reducible apply ops_pureD); kernel_rfl; rfl; (simp (disch := (first | omega | assumption | ((repeat' with_reducible apply And.intro) <;> first | omega | assumption | rfl | (apply Or.inl; rfl) | (apply Or.inr; first | rfl | trivial | fail) | fail) | fail)) only [go_sem, if_pos, if_neg, wrapI, wrapU, decide_eq_true, decide_eq_false, beqT, beqF, bneT, bneF, hkk, hvk0] <;> rfl); simp only [go_sem]) | ((with_reducible apply ops_skip); rfl; simp only [go_sem]) | ((with_reducible apply c_regionD); kernel_rfl) | ((with_reducible apply ops_eff); decide; rfl; (simp (disch := (first | omega | assumption | ((repeat' with_reducible apply And.intro) <;> first | omega | assumption | rfl | (apply Or.inl; rfl) | (apply Or.inr; first | rfl | trivial | fail) | fail) | fail)) only [go_sem, if_pos, if_neg, wrapI, wrapU, decide_eq_true, decide_eq_false, beqT, beqF, bneT, bneF, hkk, hvk0] <;> rfl); simp only [go_sem])); (repeat (first | with_reducible (first | refine c_seq ?_ | refine c_block ?_ | refine c_region ?_ | refine c_skip ?_ | refine c_exit ?_ | refine c_ret ?_ | refine then_normal ?_ | refine then_exit ?_ | refine then_ret ?_ | refine block_normal ?_ | refine block_here ?_ | refine block_ret ?_ | refine block_far (by decide) ?_ | refine ops_nil ?_ | refine c_cond_t rfl ?_ | refine c_cond_f rfl ?_) | ((with_reducible apply ops_pure); rfl; (simp (disch := (first | omega | assumption | ((repeat' with_reducible apply And.intro) <;> first | omega | assumption | rfl | (apply Or.inl; rfl) | (apply Or.inr; first | rfl | trivial | fail) | fail) | fail)) only [go_sem, if_pos, if_neg, wrapI, wrapU, decide_eq_true, decide_eq_false, beqT, beqF, bneT, bneF, hkk, hvk0] <;> rfl); simp only [go_sem]) | ((with_reducible apply ops_pureF); rfl; (intro _; simp (disch := (first | omega | assumption | ((repeat' with_reducible apply And.intro) <;> first | omega | assumption | rfl | (apply Or.inl; rfl) | (apply Or.inr; first | rfl | trivial | fail) | fail) | fail)) only [go_sem, if_pos, if_neg, wrapI, wrapU, decide_eq_true, decide_eq_false, beqT, beqF, bneT, bneF, hkk, hvk0] <;> rfl); simp only [go_sem]) | ((with_reducible apply ops_pureD); kernel_rfl; rfl; (simp (disch := (first | omega | assumption | ((repeat' with_reducible apply And.intro) <;> first | omega | assumption | rfl | (apply Or.inl; rfl) | (apply Or.inr; first | rfl | trivial | fail) | fail) | fail)) only [go_sem, if_pos, if_neg, wrapI, wrapU, decide_eq_true, decide_eq_false, beqT, beqF, bneT, bneF, hkk, hvk0] <;> rfl); simp only [go_sem]) | ((with_reducible apply ops_skip); rfl; simp only [go_sem]) | ((with_reducible apply c_regionD); kernel_rfl) | ((with_reducible apply ops_eff); decide; rfl; (simp (disch := (first | omega | assumption | ((repeat' with_reducible apply And.intro) <;> first | omega | assumption | rfl | (apply Or.inl; rfl) | (apply Or.inr; first | rfl | trivial | fail) | fail) | fail)) only [go_sem, if_pos, if_neg, wrapI, wrapU, decide_eq_true, decide_eq_false, beqT, beqF, bneT, bneF, hkk, hvk0] <;> rfl); simp only [go_sem]))); exact k.get)) : p := h k
theorem tpgoX {p q : Prop} (k : Later q) (h : Later q → p := by (intro k; (first | with_reducible (first | refine c_seq ?_ | refine c_block ?_ | refine c_skip ?_ | refine c_exit ?_ | refine c_ret ?_ | refine then_normal ?_ | refine then_exit ?_ | refine then_ret ?_ | refine block_normal ?_ | refine block_here ?_ | refine block_ret ?_ | refine block_far (by decide) ?_ | refine ops_nil ?_ | refine c_cond_t rfl ?_ | refine c_cond_f rfl ?_) | ((with_reducible apply ops_pure); rfl; (simp (disch := (first | omega | assumption | ((repeat' with_reducible apply And.intro) <;> first | omega | assumption | rfl | (apply Or.inl; rfl) | (apply Or.inr; first | rfl | trivial | fail) | fail) | fail)) only [go_sem, if_pos, if_neg, wrapI, wrapU, decide_eq_true, decide_eq_false, beqT, beqF, bneT, bneF, hkk, hvk0] <;> rfl); simp only [go_sem]) | ((with_reducible apply ops_pureF); rfl; (intro _; simp (disch := (first | omega | assumption | ((repeat' with_reducible apply And.intro) <;> first | omega | assumption | rfl | (apply Or.inl; rfl) | (apply Or.inr; first | rfl | trivial | fail) | fail) | fail)) only [go_sem, if_pos, if_neg, wrapI, wrapU, decide_eq_true, decide_eq_false, beqT, beqF, bneT, bneF, hkk, hvk0] <;> rfl); simp only [go_sem]) | ((with_reducible apply ops_pureD); kernel_rfl; rfl; (simp (disch := (first | omega | assumption | ((repeat' with_reducible apply And.intro) <;> first | omega | assumption | rfl | (apply Or.inl; rfl) | (apply Or.inr; first | rfl | trivial | fail) | fail) | fail)) only [go_sem, if_pos, if_neg, wrapI, wrapU, decide_eq_true, decide_eq_false, beqT, beqF, bneT, bneF, hkk, hvk0] <;> rfl); simp only [go_sem]) | ((with_reducible apply ops_skip); rfl; simp only [go_sem]) | ((with_reducible apply c_regionD); kernel_rfl) | ((with_reducible apply ops_eff); decide; rfl; (simp (disch := (first | omega | assumption | ((repeat' with_reducible apply And.intro) <;> first | omega | assumption | rfl | (apply Or.inl; rfl) | (apply Or.inr; first | rfl | trivial | fail) | fail) | fail)) only [go_sem, if_pos, if_neg, wrapI, wrapU, decide_eq_true, decide_eq_false, beqT, beqF, bneT, bneF, hkk, hvk0] <;> rfl); simp only [go_sem])); (repeat (first | with_reducible (first | refine c_seq ?_ | refine c_block ?_ | refine c_skip ?_ | refine c_exit ?_ | refine c_ret ?_ | refine then_normal ?_ | refine then_exit ?_ | refine then_ret ?_ | refine block_normal ?_ | refine block_here ?_ | refine block_ret ?_ | refine block_far (by decide) ?_ | refine ops_nil ?_ | refine c_cond_t rfl ?_ | refine c_cond_f rfl ?_) | ((with_reducible apply ops_pure); rfl; (simp (disch := (first | omega | assumption | ((repeat' with_reducible apply And.intro) <;> first | omega | assumption | rfl | (apply Or.inl; rfl) | (apply Or.inr; first | rfl | trivial | fail) | fail) | fail)) only [go_sem, if_pos, if_neg, wrapI, wrapU, decide_eq_true, decide_eq_false, beqT, beqF, bneT, bneF, hkk, hvk0] <;> rfl); simp only [go_sem]) | ((with_reducible apply ops_pureF); rfl; (intro _; simp (disch := (first | omega | assumption | ((repeat' with_reducible apply And.intro) <;> first | omega | assumption | rfl | (apply Or.inl; rfl) | (apply Or.inr; first | rfl | trivial | fail) | fail) | fail)) only [go_sem, if_pos, if_neg, wrapI, wrapU, decide_eq_true, decide_eq_false, beqT, beqF, bneT, bneF, hkk, hvk0] <;> rfl); simp only [go_sem]) | ((with_reducible apply ops_pureD); kernel_rfl; rfl; (simp (disch := (first | omega | assumption | ((repeat' with_reducible apply And.intro) <;> first | omega | assumption | rfl | (apply Or.inl; rfl) | (apply Or.inr; first | rfl | trivial | fail) | fail) | fail)) only [go_sem, if_pos, if_neg, wrapI, wrapU, decide_eq_true, decide_eq_false, beqT, beqF, bneT, bneF, hkk, hvk0] <;> rfl); simp only [go_sem]) | ((with_reducible apply ops_skip); rfl; simp only [go_sem]) | ((with_reducible apply c_regionD); kernel_rfl) | ((with_reducible apply ops_eff); decide; rfl; (simp (disch := (first | omega | assumption | ((repeat' with_reducible apply And.intro) <;> first | omega | assumption | rfl | (apply Or.inl; rfl) | (apply Or.inr; first | rfl | trivial | fail) | fail) | fail)) only [go_sem, if_pos, if_neg, wrapI, wrapU, decide_eq_true, decide_eq_false, beqT, beqF, bneT, bneF, hkk, hvk0] <;> rfl); simp only [go_sem]))); exact k.get)) : p := h k
theorem tpsv {p : Prop} (h : p := by simp (disch := (first | omega | assumption | ((repeat' with_reducible apply And.intro) <;> first | omega | assumption | rfl | (apply Or.inl; rfl) | (apply Or.inr; first | rfl | trivial | fail) | fail) | fail)) only [go_sem, if_pos, if_neg, wrapI, wrapU, decide_eq_true, decide_eq_false, beqT, beqF, bneT, bneF, hkk, hvk0] <;> rfl) : p := h
theorem tpcall {T : Tab} {X : CallP} {n0 lo : Nat} {wt : List Tmp} {draw : Bool} {ops : Array Oper} {Q : St → Prop} {rest : List Oper} {o : Oper} {env : List D} {sto : Sto} {f : FuncId} {args : List D} (k : ∃ r, X f args sto (if draw then sto.length else lo) r sto ∧ EvOps T X n0 lo wt draw ops Q rest (St.put ⟨env, sto⟩ o.dst r)) (hg : guardD ops o env = some true := by rfl) (h : evCallee (opd env) sto o = some (f, args) := by simp (disch := (first | omega | assumption | ((repeat' with_reducible apply And.intro) <;> first | omega | assumption | rfl | (apply Or.inl; rfl) | (apply Or.inr; first | rfl | trivial | fail) | fail) | fail)) only [go_sem, if_pos, if_neg, wrapI, wrapU, decide_eq_true, decide_eq_false, beqT, beqF, bneT, bneF, hkk, hvk0] <;> rfl) : EvOps T X n0 lo wt draw ops Q (o :: rest) ⟨env, sto⟩ := k.elim fun _ k => ops_call hg h k.1 k.2
set_option linter.unusedSimpArgs false
set_option linter.unusedVariables false
set_option maxRecDepth 100000
set_option maxHeartbeats 4000000
theorem big_small {x : Int} (h : -100000 ≤ x ∧ x ≤ 100000) : Big x := ⟨by omega, by omega⟩
theorem termPartsV_ev (hval : ValidP) (l : List Int) (kind n m by' : Int) (hl : NumL l) (hk : Big kind) (hn : Big n) (hm : Big m) (hby : Big by') (sto : Sto) (lo : Nat) (hlo : lo ≤ sto.length) : CallEv Tryd.prog tab sortB 6 [.v (LI l), .v (VI kind), .v (VI n), .v (VI m), .v (VI by')] sto lo (.v (.bool true)) sto := by
  have hlv := fun sto lo hlo => livesV_ev hval sto lo hlo
  have ht := fun sto lo hlo => (term_ev l kind hl hk sto lo hlo).up0 (B := sortB)
  have hv1 := fun sto lo hlo => (values_ev n hn sto lo hlo).up0 (B := sortB)
  have hv2 := fun sto lo hlo => (valuesW_ev m hm sto lo hlo).up0 (B := sortB)
  have ha1 := fun sto lo hlo => (around_ev by' 100 hby (by omega) (by omega) sto lo hlo).up0 (B := sortB)
  have ha2 := fun sto lo hlo => (around_ev by' 3 hby (by omega) (by omega) sto lo hlo).up0 (B := sortB)
  have hb1 := aroundS_bound (n := by') (most := 100) (by omega)
  have hb2 := aroundS_bound (n := by') (most := 3) (by omega)
  obtain ⟨hw, hsz⟩ := term_ok l kind
  have hok := term_vars l kind
  have hrg := varsS_range hok
  have hgd := fun xs hg => eval_good hw hok (vals := valuesS n) (xs := xs) hg
  have hvb := valuesS_bound n
  have hwb := valuesS_bound m
  have hvl := valuesS_length n
  have hwl := valuesS_length m
  have hvl2 : (visK (termS l kind) []).length ≤ 64 := by
    have h1 := keysS_length (mkK (visK (termS l kind) []))
    rw [vars_eq (fun p hp => ⟨(hok p hp).1, by have := (hok p hp).2.1; omega⟩)] at h1
    have h2 : (refVars (termS l kind)).length ≤ 64 := by
      unfold refVars upTo
      exact Nat.le_trans (List.length_filter_le _ _) (by simp)
    simp only [mkK, List.length_map] at h1
    omega
  have hvr := fun sto lo hlo => vars_ev (termS l kind) (by omega) (fun k hk => by
    have h1 : k ∈ keysS (mkK (visK (termS l kind) [])) := by
      rw [keys_mk]; exact List.mem_mergeSort.2 hk
    have := hrg k h1
    exact ⟨by omega, by omega⟩) (by omega) sto lo hlo
  have he1 := fun sto lo hlo => (eval_ev (valuesS n) (fun x hx => big_small (by have := hvb x hx; omega)) (by rw [hvl]; decide) hw sto lo hlo).up0 (B := sortB)
  have he2 := fun (xs : List Int) (hx : ∀ x ∈ xs, Big x) (hxl : xs.length = 4) sto lo hlo => (eval_ev xs hx (by rw [hxl]; decide) hw sto lo hlo).up0 (B := sortB)
  unfold varsK at hvr
  have hvsl : (keysS (mkK (visK (termS l kind) []))).length ≤ 64 := by
    rw [keysS_length]; simp only [mkK, List.length_map]; exact hvl2
  clear hok hval hl hk hn hm hvl2 hw hsz
  generalize evalS (valuesS n) (termS l kind) = ve at *
  generalize keysS (mkK (visK (termS l kind) [])) = vs at *
  generalize valuesS n = vals at *
  generalize valuesS m = xs0 at *
  generalize termS l kind = t at *
  generalize aroundS by' 100 = b1 at *
  generalize aroundS by' 3 = b2 at *
  obtain ⟨k0, n0, m0, l0⟩ := t
  have hp : ∀ k ∈ vs, 0 ≤ k := fun k hk => (hrg k hk).1
  have hx0 : ∀ x ∈ xs0, Big x := fun x hx => big_small (by have := hwb x hx; omega)
  have hkk : True := trivial
  have hvk0 : True := trivial
  refine CallEv.intro ⟨_, _, [], Tryd.func6, rfl, by decide, ?_⟩; simp only [go_sem, Tryd.ntmps6]
  repeat' (first | (refine tpgo ⟨?_⟩) | (first | ((refine tpcall ?_); (refine ⟨_, ht _ _ (by first | omega | (simp; done) | (simp; omega)), ?_⟩); (try simp only [go_sem])) | ((refine tpcall ?_); (refine ⟨_, hv1 _ _ (by first | omega | (simp; done) | (simp; omega)), ?_⟩); (try simp only [go_sem])) | ((with_reducible apply ops_callW); rfl; (simp (disch := (first | omega | assumption | ((repeat' with_reducible apply And.intro) <;> first | omega | assumption | rfl | (apply Or.inl; rfl) | (apply Or.inr; first | rfl | trivial | fail) | fail) | fail)) only [go_sem, if_pos, if_neg, wrapI, wrapU, decide_eq_true, decide_eq_false, beqT, beqF, bneT, bneF, hkk, hvk0] <;> rfl); (exact hv2 _ _ (by first | omega | (simp; done) | (simp; omega))); ((try simp only [go_sem]); (first | exact ho_arr | exact ho_arr2 | exact ho_map | exact ho_app (by first | omega | (simp; done) | (simp; omega)) | exact ho_app2 (by first | omega | (simp; done) | (simp; omega)))); (try simp only [go_sem])) | ((refine tpcall ?_); (refine ⟨_, hvr _ _ (by first | omega | (simp; done) | (simp; omega)), ?_⟩); (try simp only [go_sem]))) | ((first | (refine bsp ?_ ?_) | (refine csp ?_ ?_)); all_goals (intro hb; (fail_if_success (cases hb; done)); (try simp only [decide_eq_true_eq, decide_eq_false_iff_not, beq_iff_eq, bne_iff_ne, ne_eq, beq_eq_false_iff_ne, bne_eq_false_iff_eq, Bool.not_eq_true', Bool.not_eq_false', Bool.and_eq_true, Bool.or_eq_true, Decidable.not_not] at hb); (try simp only [go_sem]))))
  refine c_loop (fun mm s => ∃ (i : Nat) (xs : List Int) (js : List Ent), (i ≤ vs.length ∧ mm = vs.length - i ∧ xs.length = 4 ∧ (∀ x ∈ xs, Big x) ∧ ∀ k ∈ vs.take i, goodAt vals xs k) ∧ (s.env.length = 86 ∧ s.sto = sto ++ .cells [.v (VI k0), .v (VI n0), .v (VI m0), .v (.sl l0.length (cellsTs l0))] :: .arr (some (3, 1)) true 4 (xs.map VI) :: js ∧ s.env[4]? = some (.v (VI by')) ∧ s.env[11]? = some (.ptr sto.length 0) ∧ s.env[12]? = some (.v (LI vals)) ∧ s.env[13]? = some (.arr (sto.length + 1) 4) ∧ s.env[14]? = some (.v (LI vs)) ∧ s.env[15]? = some (.v (VI i)))) (.refl _) ⟨0, xs0, [], ⟨by omega, rfl, hwl, hx0, by simp⟩, rfl, rfl, ?_, ?_, ?_, ?_, ?_, ?_⟩ ?_
  all_goals first | rfl | skip
  rintro mm s ⟨i, xs, js, ⟨h1, rfl, h2, h3, h4⟩, hL, hT, k4, k11, k12, k13, k14, k15⟩
  obtain ⟨env, st0⟩ := s; obtain ⟨J, hJ⟩ := listJ hL; rw [show (List.range 86).map J = J 0 :: J 1 :: J 2 :: J 3 :: J 4 :: J 5 :: J 6 :: J 7 :: J 8 :: J 9 :: J 10 :: J 11 :: J 12 :: J 13 :: J 14 :: J 15 :: J 16 :: J 17 :: J 18 :: J 19 :: J 20 :: J 21 :: J 22 :: J 23 :: J 24 :: J 25 :: J 26 :: J 27 :: J 28 :: J 29 :: J 30 :: J 31 :: J 32 :: J 33 :: J 34 :: J 35 :: J 36 :: J 37 :: J 38 :: J 39 :: J 40 :: J 41 :: J 42 :: J 43 :: J 44 :: J 45 :: J 46 :: J 47 :: J 48 :: J 49 :: J 50 :: J 51 :: J 52 :: J 53 :: J 54 :: J 55 :: J 56 :: J 57 :: J 58 :: J 59 :: J 60 :: J 61 :: J 62 :: J 63 :: J 64 :: J 65 :: J 66 :: J 67 :: J 68 :: J 69 :: J 70 :: J 71 :: J 72 :: J 73 :: J 74 :: J 75 :: J 76 :: J 77 :: J 78 :: J 79 :: J 80 :: J 81 :: J 82 :: J 83 :: J 84 :: J 85 :: [] from by kernel_rfl] at hJ; replace k4 := Option.some.inj ((congrArg (·[4]?) hJ).symm.trans k4); replace k11 := Option.some.inj ((congrArg (·[11]?) hJ).symm.trans k11); replace k12 := Option.some.inj ((congrArg (·[12]?) hJ).symm.trans k12); replace k13 := Option.some.inj ((congrArg (·[13]?) hJ).symm.trans k13); replace k14 := Option.some.inj ((congrArg (·[14]?) hJ).symm.trans k14); replace k15 := Option.some.inj ((congrArg (·[15]?) hJ).symm.trans k15); rw [k4, k11, k12, k13, k14, k15] at hJ; dsimp only at hJ hT; subst hJ; replace hT := hT.symm; subst hT; clear hL k4 k11 k12 k13 k14 k15
  clear hv1 hv2 hvr ht hwb hx0 hwl
  by_cases hi : i < vs.length
  · clear hkk hvk0
    have hkr := hrg vs[i] (List.getElem_mem hi)
    obtain ⟨kk, hkk⟩ := Int.eq_ofNat_of_zero_le hkr.1
    have hk4 : kk < 4 := by omega
    have hvk := hvb vals[kk] (List.getElem_mem _)
    have hbig : ∀ v : Int, Big v → ∀ x ∈ xs.set kk v, Big x := fun v hv x hx => (List.mem_or_eq_of_mem_set hx).elim (h3 x) fun e => e ▸ hv
    have hxl : ∀ v : Int, (xs.set kk v).length = 4 := fun v => by rw [List.length_set]; exact h2
    have hst := fun (v : Int) (hg : goodAt vals (xs.set kk v) kk) => good_step (vals := vals) (xs := xs) hi hkk hp hg h4
    have g1 := fun (hk : kk < 2) => good_word (vals := vals) (xs := xs) hk hvl h2 b1
    have g2 := fun (hk : 2 ≤ kk) (v : Int) (hv : v ≠ 0) => good_truth (vals := vals) (xs := xs) hk hk4 hvl h2 hv
    have g3 := good_same (vals := vals) (xs := xs) hk4 hvl h2
    clear hrg hvb he1 he2 hgd hlv
    generalize hvk0 : vals[kk] = v at *
    have hbv : Big v := big_small (by omega)
    clear h3 h4
    by_cases c : kk < 2
    · repeat' (first | (refine tpgo ⟨?_⟩) | (first | ((refine tpcall ?_); (refine ⟨_, ha1 _ _ (by first | omega | (simp; done) | (simp; omega)), ?_⟩); (try simp only [go_sem]))) | ((first | (refine bsp ?_ ?_) | (refine csp ?_ ?_)); all_goals (intro hb; (fail_if_success (cases hb; done)); (try simp only [decide_eq_true_eq, decide_eq_false_iff_not, beq_iff_eq, bne_iff_ne, ne_eq, beq_eq_false_iff_ne, bne_eq_false_iff_eq, Bool.not_eq_true', Bool.not_eq_false', Bool.and_eq_true, Bool.or_eq_true, Decidable.not_not] at hb); (try simp only [go_sem]))))
      rw [mapSet (f := VI) (by rw [hxl]; omega), List.set_set]
      have hg := g1 c
      rw [hvk0] at hg
      refine ⟨_, _, ?_, .refl _, i + 1, xs.set kk (v + 16 * b1), _, ⟨by omega, rfl, hxl _, hbig _ (big_small (by omega)), hst _ hg⟩, rfl, rfl, ?_, ?_, ?_, ?_, ?_, ?_⟩
      · omega
      all_goals rfl
    · by_cases c2 : v = 0
      · repeat' (first | (refine tpgo ⟨?_⟩) | (first | ((refine tpcall ?_); (refine ⟨_, ha2 _ _ (by first | omega | (simp; done) | (simp; omega)), ?_⟩); (try simp only [go_sem]))) | ((first | (refine bsp ?_ ?_) | (refine csp ?_ ?_)); all_goals (intro hb; (fail_if_success (cases hb; done)); (try simp only [decide_eq_true_eq, decide_eq_false_iff_not, beq_iff_eq, bne_iff_ne, ne_eq, beq_eq_false_iff_ne, bne_eq_false_iff_eq, Bool.not_eq_true', Bool.not_eq_false', Bool.and_eq_true, Bool.or_eq_true, Decidable.not_not] at hb); (try simp only [go_sem]))))
        refine ⟨_, _, ?_, .refl _, i + 1, xs.set kk v, _, ⟨by omega, rfl, hxl _, hbig _ hbv, hst _ g3⟩, rfl, rfl, ?_, ?_, ?_, ?_, ?_, ?_⟩
        · omega
        all_goals rfl
      · have hb3 : b2 = 0 ∨ b2 = 1 ∨ b2 = 2 := by omega
        rcases hb3 with rfl | rfl | rfl
        · repeat' (first | (refine tpgo ⟨?_⟩) | (first | ((refine tpcall ?_); (refine ⟨_, ha2 _ _ (by first | omega | (simp; done) | (simp; omega)), ?_⟩); (try simp only [go_sem]))) | ((first | (refine bsp ?_ ?_) | (refine csp ?_ ?_)); all_goals (intro hb; (fail_if_success (cases hb; done)); (try simp only [decide_eq_true_eq, decide_eq_false_iff_not, beq_iff_eq, bne_iff_ne, ne_eq, beq_eq_false_iff_ne, bne_eq_false_iff_eq, Bool.not_eq_true', Bool.not_eq_false', Bool.and_eq_true, Bool.or_eq_true, Decidable.not_not] at hb); (try simp only [go_sem]))))
          rw [mapSet (f := VI) (by rw [hxl]; omega), List.set_set]
          refine ⟨_, _, ?_, .refl _, i + 1, xs.set kk 1, _, ⟨by omega, rfl, hxl _, hbig _ (big_small (by omega)), hst _ (g2 (by omega) _ (by decide) (by rw [hvk0]; exact c2))⟩, rfl, rfl, ?_, ?_, ?_, ?_, ?_, ?_⟩
          · omega
          all_goals rfl
        · repeat' (first | (refine tpgo ⟨?_⟩) | (first | ((refine tpcall ?_); (refine ⟨_, ha2 _ _ (by first | omega | (simp; done) | (simp; omega)), ?_⟩); (try simp only [go_sem]))) | ((first | (refine bsp ?_ ?_) | (refine csp ?_ ?_)); all_goals (intro hb; (fail_if_success (cases hb; done)); (try simp only [decide_eq_true_eq, decide_eq_false_iff_not, beq_iff_eq, bne_iff_ne, ne_eq, beq_eq_false_iff_ne, bne_eq_false_iff_eq, Bool.not_eq_true', Bool.not_eq_false', Bool.and_eq_true, Bool.or_eq_true, Decidable.not_not] at hb); (try simp only [go_sem]))))
          rw [mapSet (f := VI) (by rw [hxl]; omega), List.set_set]
          refine ⟨_, _, ?_, .refl _, i + 1, xs.set kk (-1), _, ⟨by omega, rfl, hxl _, hbig _ (big_small (by omega)), hst _ (g2 (by omega) _ (by decide) (by rw [hvk0]; exact c2))⟩, rfl, rfl, ?_, ?_, ?_, ?_, ?_, ?_⟩
          · omega
          all_goals rfl
        · repeat' (first | (refine tpgo ⟨?_⟩) | (first | ((refine tpcall ?_); (refine ⟨_, ha2 _ _ (by first | omega | (simp; done) | (simp; omega)), ?_⟩); (try simp only [go_sem]))) | ((first | (refine bsp ?_ ?_) | (refine csp ?_ ?_)); all_goals (intro hb; (fail_if_success (cases hb; done)); (try simp only [decide_eq_true_eq, decide_eq_false_iff_not, beq_iff_eq, bne_iff_ne, ne_eq, beq_eq_false_iff_ne, bne_eq_false_iff_eq, Bool.not_eq_true', Bool.not_eq_false', Bool.and_eq_true, Bool.or_eq_true, Decidable.not_not] at hb); (try simp only [go_sem]))))
          rw [mapSet (f := VI) (by rw [hxl]; omega), List.set_set]
          refine ⟨_, _, ?_, .refl _, i + 1, xs.set kk 16, _, ⟨by omega, rfl, hxl _, hbig _ (big_small (by omega)), hst _ (g2 (by omega) _ (by decide) (by rw [hvk0]; exact c2))⟩, rfl, rfl, ?_, ?_, ?_, ?_, ?_, ?_⟩
          · omega
          all_goals rfl
  · rw [List.take_of_length_le (by omega)] at h4
    have he := fun sto lo hlo => he2 xs h3 h2 sto lo hlo
    rw [← hgd xs h4, show LI xs = V.sl 4 (xs.map VI) from by simp only [LI, SL, h2]] at he
    clear he2 hgd h4 h3 hrg hp hvb ha1 ha2
    (try refine tpgoX ⟨?_⟩)
    (with_reducible refine c_region ?_)
    (repeat (first | with_reducible (first | refine c_seq ?_ | refine c_block ?_ | refine c_skip ?_ | refine c_exit ?_ | refine c_ret ?_ | refine then_normal ?_ | refine then_exit ?_ | refine then_ret ?_ | refine block_normal ?_ | refine block_here ?_ | refine block_ret ?_ | refine block_far (by decide) ?_ | refine ops_nil ?_ | refine c_cond_t rfl ?_ | refine c_cond_f rfl ?_) | ((with_reducible apply ops_pure); rfl; (simp (disch := (first | omega | assumption | ((repeat' with_reducible apply And.intro) <;> first | omega | assumption | rfl | (apply Or.inl; rfl) | (apply Or.inr; first | rfl | trivial | fail) | fail) | fail)) only [go_sem, if_pos, if_neg, wrapI, wrapU, decide_eq_true, decide_eq_false, beqT, beqF, bneT, bneF, hkk, hvk0] <;> rfl); simp only [go_sem]) | ((with_reducible apply ops_skip); rfl; simp only [go_sem])))
    (with_reducible refine c_region_share [sto.length + 1] ?_ ?_); (intro _; kernel_rfl); simp (disch := (first | omega | assumption | ((repeat' with_reducible apply And.intro) <;> first | omega | assumption | rfl | (apply Or.inl; rfl) | (apply Or.inr; first | rfl | trivial | fail) | fail) | fail)) only [go_sem, if_pos, if_neg, wrapI, wrapU, decide_eq_true, decide_eq_false, beqT, beqF, bneT, bneF, hkk, hvk0]
    repeat' (first | (refine tpgo ⟨?_⟩) | (first | ((refine tpcall ?_); (refine ⟨_, he1 _ _ (by first | omega | (simp; done) | (simp; omega)), ?_⟩); (try simp only [go_sem])) | ((refine tpcall ?_); (refine ⟨_, he _ _ (by first | omega | (simp; done) | (simp; omega)), ?_⟩); (try simp only [go_sem])) | ((refine tpcall ?_); (refine ⟨_, hlv _ _ (by first | omega | (simp; done) | (simp; omega)), ?_⟩); (try simp only [go_sem]))) | ((first | (refine bsp ?_ ?_) | (refine csp ?_ ?_)); all_goals (intro hb; (fail_if_success (cases hb; done)); (try simp only [decide_eq_true_eq, decide_eq_false_iff_not, beq_iff_eq, bne_iff_ne, ne_eq, beq_eq_false_iff_ne, bne_eq_false_iff_eq, Bool.not_eq_true', Bool.not_eq_false', Bool.and_eq_true, Bool.or_eq_true, Decidable.not_not] at hb); (try simp only [go_sem]))))
    refine ⟨by first | exact .inr rfl | exact .inl rfl, .inl ⟨[], _, (by dsimp only [Tryd.f6]; exact tpsv), ?_, by simp⟩⟩
    rfl
end Go.Proofs.YtomameefmobnlaaDoor
namespace Go.Proofs.YtomameefmobnlaaDoor
open Go Go.RowKit

attribute [local irreducible] EvOps EvC
attribute [local go_sem] List.getElem?_toArray getS List.flatten_cons List.flatten_nil List.contains_nil opsV
set_option linter.unusedSimpArgs false
set_option linter.unusedVariables false
set_option maxRecDepth 100000
set_option maxHeartbeats 4000000
theorem tSize_ev (N : Nat) : ∀ (t : Tr) (sto : Sto) (lo : Nat), tsz t ≤ N → tsz t < 1000000 → lo ≤ sto.length → CallEv Tryd.prog tab B0 35 [.v (TV t)] sto lo (.v (VI (tsz t))) sto := by
  induction N with
  | zero => intro t sto lo h; have := tsz_pos t; omega
  | succ N ih =>
    intro t sto lo hN hs hlo
    obtain ⟨k, n, m, l⟩ := t
    simp only [tsz] at hN hs
    have hll := tszs_length l
    refine CallEv.intro ⟨_, _, [], Tryd.func35, rfl, by decide, ?_⟩; simp only [go_sem, Tryd.ntmps35]
    repeat' (first | (refine go ⟨?_⟩) | (fail) | ((first | (refine bsp ?_ ?_) | (refine csp ?_ ?_)); all_goals (intro hb; (fail_if_success (cases hb; done)); (try simp only [decide_eq_true_eq, decide_eq_false_iff_not, beq_iff_eq, bne_iff_ne, ne_eq, beq_eq_false_iff_ne, bne_eq_false_iff_eq, Bool.not_eq_true', Bool.not_eq_false', Bool.and_eq_true, Bool.or_eq_true, Decidable.not_not] at hb); (try simp only [go_sem]))))
    refine c_loop (fun mm s => ∃ (i sm : Nat) (js : List Ent), (i ≤ l.length ∧ mm = l.length - i ∧ sm = 1 + tszs (l.take i)) ∧ (s.env.length = 19 ∧ s.sto = sto ++ .cells [.v (VI k), .v (VI n), .v (VI m), .v (.sl l.length (cellsTs l))] :: js ∧ s.env[1]? = some (.ptr sto.length 0) ∧ s.env[3]? = some (.v (VI sm)) ∧ s.env[7]? = some (.v (.sl l.length (cellsTs l))) ∧ s.env[8]? = some (.v (VI l.length)) ∧ s.env[9]? = some (.v (VI i)))) (.refl _) ⟨0, 1, [], ⟨by omega, rfl, rfl⟩, rfl, rfl, ?_, ?_, ?_, ?_, ?_⟩ ?_
    all_goals first | rfl | skip
    rintro mm s ⟨i, sm, js, ⟨h1, rfl, h2⟩, hL, hT, k1, k3, k7, k8, k9⟩
    obtain ⟨env, st0⟩ := s; obtain ⟨J, hJ⟩ := listJ hL; rw [show (List.range 19).map J = J 0 :: J 1 :: J 2 :: J 3 :: J 4 :: J 5 :: J 6 :: J 7 :: J 8 :: J 9 :: J 10 :: J 11 :: J 12 :: J 13 :: J 14 :: J 15 :: J 16 :: J 17 :: J 18 :: [] from by kernel_rfl] at hJ; replace k1 := Option.some.inj ((congrArg (·[1]?) hJ).symm.trans k1); replace k3 := Option.some.inj ((congrArg (·[3]?) hJ).symm.trans k3); replace k7 := Option.some.inj ((congrArg (·[7]?) hJ).symm.trans k7); replace k8 := Option.some.inj ((congrArg (·[8]?) hJ).symm.trans k8); replace k9 := Option.some.inj ((congrArg (·[9]?) hJ).symm.trans k9); rw [k1, k3, k7, k8, k9] at hJ; dsimp only at hJ hT; subst hJ; replace hT := hT.symm; subst hT; clear hL k1 k3 k7 k8 k9
    have hle := tszs_take_le l i
    by_cases hi : i < l.length
    · have hnx := tszs_take hi
      have hz := tsz_get hi
      have hle2 := tszs_take_le l (i + 1)
      have hk := fun sto lo hlo => ih l[i] sto lo (by omega) (by omega) hlo
      clear ih
      generalize htt : l[i] = t at *
      obtain ⟨k2, n2, m2, l2⟩ := t
      repeat' (first | (refine go ⟨?_⟩) | (fail) | ((first | (refine bsp ?_ ?_) | (refine csp ?_ ?_)); all_goals (intro hb; (fail_if_success (cases hb; done)); (try simp only [decide_eq_true_eq, decide_eq_false_iff_not, beq_iff_eq, bne_iff_ne, ne_eq, beq_eq_false_iff_ne, bne_eq_false_iff_eq, Bool.not_eq_true', Bool.not_eq_false', Bool.and_eq_true, Bool.or_eq_true, Decidable.not_not] at hb); (try simp only [go_sem]))))
      rw [htt]
      repeat' (first | (refine go ⟨?_⟩) | (((refine call ?_); (refine ⟨_, hk _ _ (by first | omega | (simp; done) | (simp; omega)), ?_⟩); (try simp only [go_sem]))) | ((first | (refine bsp ?_ ?_) | (refine csp ?_ ?_)); all_goals (intro hb; (fail_if_success (cases hb; done)); (try simp only [decide_eq_true_eq, decide_eq_false_iff_not, beq_iff_eq, bne_iff_ne, ne_eq, beq_eq_false_iff_ne, bne_eq_false_iff_eq, Bool.not_eq_true', Bool.not_eq_false', Bool.and_eq_true, Bool.or_eq_true, Decidable.not_not] at hb); (try simp only [go_sem]))))
      refine ⟨_, _, ?_, .refl _, i + 1, sm + tsz (.mk k2 n2 m2 l2), _, ⟨by omega, rfl, by omega⟩, rfl, rfl, ?_, ?_, ?_, ?_, ?_⟩
      · omega
      all_goals rfl
    · rw [List.take_of_length_le (by omega)] at h2
      repeat' (first | (refine go ⟨?_⟩) | (fail) | ((first | (refine bsp ?_ ?_) | (refine csp ?_ ?_)); all_goals (intro hb; (fail_if_success (cases hb; done)); (try simp only [decide_eq_true_eq, decide_eq_false_iff_not, beq_iff_eq, bne_iff_ne, ne_eq, beq_eq_false_iff_ne, bne_eq_false_iff_eq, Bool.not_eq_true', Bool.not_eq_false', Bool.and_eq_true, Bool.or_eq_true, Decidable.not_not] at hb); (try simp only [go_sem]))))
      refine ⟨by first | exact .inr rfl | exact .inl rfl, .inl ⟨[], _, (by dsimp only [Tryd.f35]; exact sv), ?_, by simp⟩⟩
      rw [tsz, ← h2]
theorem truth_ev (op : Int) (sto : Sto) (lo : Nat) (hlo : lo ≤ sto.length) : CallEv Tryd.prog tab B0 66 [.v (VI op)] sto lo (.v (.bool (decide (10 ≤ op ∧ op < 14)))) sto := by
  by_cases h1 : op < 0
  · rw [decide_eq_false (by omega)]
    refine CallEv.intro ⟨_, _, [], Tryd.func66, rfl, by decide, ?_⟩; simp only [go_sem, Tryd.ntmps66]
    repeat' (first | (refine go ⟨?_⟩) | (fail) | ((first | (refine bsp ?_ ?_) | (refine csp ?_ ?_)); all_goals (intro hb; (fail_if_success (cases hb; done)); (try simp only [decide_eq_true_eq, decide_eq_false_iff_not, beq_iff_eq, bne_iff_ne, ne_eq, beq_eq_false_iff_ne, bne_eq_false_iff_eq, Bool.not_eq_true', Bool.not_eq_false', Bool.and_eq_true, Bool.or_eq_true, Decidable.not_not] at hb); (try simp only [go_sem]))))
    refine ⟨by first | exact .inr rfl | exact .inl rfl, .inl ⟨[], _, (by dsimp only [Tryd.f66]; exact sv), ?_, by simp⟩⟩
    rfl
  by_cases h2 : op ≥ 14
  · rw [decide_eq_false (by omega)]
    refine CallEv.intro ⟨_, _, [], Tryd.func66, rfl, by decide, ?_⟩; simp only [go_sem, Tryd.ntmps66]
    repeat' (first | (refine go ⟨?_⟩) | (fail) | ((first | (refine bsp ?_ ?_) | (refine csp ?_ ?_)); all_goals (intro hb; (fail_if_success (cases hb; done)); (try simp only [decide_eq_true_eq, decide_eq_false_iff_not, beq_iff_eq, bne_iff_ne, ne_eq, beq_eq_false_iff_ne, bne_eq_false_iff_eq, Bool.not_eq_true', Bool.not_eq_false', Bool.and_eq_true, Bool.or_eq_true, Decidable.not_not] at hb); (try simp only [go_sem]))))
    refine ⟨by first | exact .inr rfl | exact .inl rfl, .inl ⟨[], _, (by dsimp only [Tryd.f66]; exact sv), ?_, by simp⟩⟩
    rfl
  obtain rfl | rfl | rfl | rfl | rfl | rfl | rfl | rfl | rfl | rfl | rfl | rfl | rfl | rfl : op = 0 ∨ op = 1 ∨ op = 2 ∨ op = 3 ∨ op = 4 ∨ op = 5 ∨ op = 6 ∨ op = 7 ∨ op = 8 ∨ op = 9 ∨ op = 10 ∨ op = 11 ∨ op = 12 ∨ op = 13 := by omega
  all_goals
    refine CallEv.intro ⟨_, _, [], Tryd.func66, rfl, by decide, ?_⟩; simp only [go_sem, Tryd.ntmps66]
    repeat' (first | (refine go ⟨?_⟩) | (fail) | ((first | (refine bsp ?_ ?_) | (refine csp ?_ ?_)); all_goals (intro hb; (fail_if_success (cases hb; done)); (try simp only [decide_eq_true_eq, decide_eq_false_iff_not, beq_iff_eq, bne_iff_ne, ne_eq, beq_eq_false_iff_ne, bne_eq_false_iff_eq, Bool.not_eq_true', Bool.not_eq_false', Bool.and_eq_true, Bool.or_eq_true, Decidable.not_not] at hb); (try simp only [go_sem]))))
    refine ⟨by first | exact .inr rfl | exact .inl rfl, .inl ⟨[], _, (by dsimp only [Tryd.f66]; exact sv), ?_, by simp⟩⟩
    rfl
end Go.Proofs.YtomameefmobnlaaDoor
namespace Go.Proofs.YtomameefmobnlaaDoor
open Go Go.RowKit

attribute [local irreducible] EvOps EvC
attribute [local go_sem] List.getElem?_toArray List.flatten_cons List.flatten_nil List.contains_nil List.append_nil List.length_set Bool.and_self implies_true eq_self List.contains_cons beq_self_eq_true Bool.true_or
attribute [local go_sem] getS sA0 sA sB0 sB sC sC2 sD sD2 sT
theorem flat_rep (n : Nat) : (List.replicate n [V.int .i64 0]).flatten = (List.replicate n (0 : Int)).map VI := by
  induction n with
  | zero => rfl
  | succ n ih => rw [List.replicate_succ, List.flatten_cons, ih, List.replicate_succ]; rfl
attribute [local go_sem] mget_map mput_map flat_rep List.getElem?_set_self
theorem tygo {p q : Prop} (k : Later q) (h : Later q → p := by (intro k; (first | with_reducible (first | refine c_seq ?_ | refine c_block ?_ | refine c_region ?_ | refine c_skip ?_ | refine c_exit ?_ | refine c_ret ?_ | refine then_normal ?_ | refine then_exit ?_ | refine then_ret ?_ | refine block_normal ?_ | refine block_here ?_ | refine block_ret ?_ | refine block_far (by decide) ?_ | refine ops_nil ?_ | refine c_cond_t rfl ?_ | refine c_cond_f rfl ?_) | ((with_reducible apply ops_pure); rfl; (simp (disch := (first | omega | assumption | ((repeat' with_reducible apply And.intro) <;> first | omega | assumption | rfl | (apply Or.inl; rfl) | (apply Or.inr; first | rfl | trivial | fail) | fail) | fail)) only [go_sem, if_pos, if_neg, wrapI, wrapU, decide_eq_true, decide_eq_false, beqT, beqF, bneT, bneF, hp0, hg] <;> rfl); simp only [go_sem]) | ((with_reducible apply ops_pureF); rfl; (intro _; simp (disch := (first | omega | assumption | ((repeat' with_reducible apply And.intro) <;> first | omega | assumption | rfl | (apply Or.inl; rfl) | (apply Or.inr; first | rfl | trivial | fail) | fail) | fail)) only [go_sem, if_pos, if_neg, wrapI, wrapU, decide_eq_true, decide_eq_false, beqT, beqF, bneT, bneF, hp0, hg] <;> rfl); simp only [go_sem]) | ((with_reducible apply ops_pureD); kernel_rfl; rfl; (simp (disch := (first | omega | assumption | ((repeat' with_reducible apply And.intro) <;> first | omega | assumption | rfl | (apply Or.inl; rfl) | (apply Or.inr; first | rfl | trivial | fail) | fail) | fail)) only [go_sem, if_pos, if_neg, wrapI, wrapU, decide_eq_true, decide_eq_false, beqT, beqF, bneT, bneF, hp0, hg] <;> rfl); simp only [go_sem]) | ((with_reducible apply ops_skip); rfl; simp only [go_sem]) | ((with_reducible apply c_regionD); kernel_rfl) | ((with_reducible apply ops_eff); decide; rfl; (simp (disch := (first | omega | assumption | ((repeat' with_reducible apply And.intro) <;> first | omega | assumption | rfl | (apply Or.inl; rfl) | (apply Or.inr; first | rfl | trivial | fail) | fail) | fail)) only [go_sem, if_pos, if_neg, wrapI, wrapU, decide_eq_true, decide_eq_false, beqT, beqF, bneT, bneF, hp0, hg] <;> rfl); simp only [go_sem])); (repeat (first | with_reducible (first | refine c_seq ?_ | refine c_block ?_ | refine c_region ?_ | refine c_skip ?_ | refine c_exit ?_ | refine c_ret ?_ | refine then_normal ?_ | refine then_exit ?_ | refine then_ret ?_ | refine block_normal ?_ | refine block_here ?_ | refine block_ret ?_ | refine block_far (by decide) ?_ | refine ops_nil ?_ | refine c_cond_t rfl ?_ | refine c_cond_f rfl ?_) | ((with_reducible apply ops_pure); rfl; (simp (disch := (first | omega | assumption | ((repeat' with_reducible apply And.intro) <;> first | omega | assumption | rfl | (apply Or.inl; rfl) | (apply Or.inr; first | rfl | trivial | fail) | fail) | fail)) only [go_sem, if_pos, if_neg, wrapI, wrapU, decide_eq_true, decide_eq_false, beqT, beqF, bneT, bneF, hp0, hg] <;> rfl); simp only [go_sem]) | ((with_reducible apply ops_pureF); rfl; (intro _; simp (disch := (first | omega | assumption | ((repeat' with_reducible apply And.intro) <;> first | omega | assumption | rfl | (apply Or.inl; rfl) | (apply Or.inr; first | rfl | trivial | fail) | fail) | fail)) only [go_sem, if_pos, if_neg, wrapI, wrapU, decide_eq_true, decide_eq_false, beqT, beqF, bneT, bneF, hp0, hg] <;> rfl); simp only [go_sem]) | ((with_reducible apply ops_pureD); kernel_rfl; rfl; (simp (disch := (first | omega | assumption | ((repeat' with_reducible apply And.intro) <;> first | omega | assumption | rfl | (apply Or.inl; rfl) | (apply Or.inr; first | rfl | trivial | fail) | fail) | fail)) only [go_sem, if_pos, if_neg, wrapI, wrapU, decide_eq_true, decide_eq_false, beqT, beqF, bneT, bneF, hp0, hg] <;> rfl); simp only [go_sem]) | ((with_reducible apply ops_skip); rfl; simp only [go_sem]) | ((with_reducible apply c_regionD); kernel_rfl) | ((with_reducible apply ops_eff); decide; rfl; (simp (disch := (first | omega | assumption | ((repeat' with_reducible apply And.intro) <;> first | omega | assumption | rfl | (apply Or.inl; rfl) | (apply Or.inr; first | rfl | trivial | fail) | fail) | fail)) only [go_sem, if_pos, if_neg, wrapI, wrapU, decide_eq_true, decide_eq_false, beqT, beqF, bneT, bneF, hp0, hg] <;> rfl); simp only [go_sem]))); exact k.get)) : p := h k
theorem tygoX {p q : Prop} (k : Later q) (h : Later q → p := by (intro k; (first | with_reducible (first | refine c_seq ?_ | refine c_block ?_ | refine c_skip ?_ | refine c_exit ?_ | refine c_ret ?_ | refine then_normal ?_ | refine then_exit ?_ | refine then_ret ?_ | refine block_normal ?_ | refine block_here ?_ | refine block_ret ?_ | refine block_far (by decide) ?_ | refine ops_nil ?_ | refine c_cond_t rfl ?_ | refine c_cond_f rfl ?_) | ((with_reducible apply ops_pure); rfl; (simp (disch := (first | omega | assumption | ((repeat' with_reducible apply And.intro) <;> first | omega | assumption | rfl | (apply Or.inl; rfl) | (apply Or.inr; first | rfl | trivial | fail) | fail) | fail)) only [go_sem, if_pos, if_neg, wrapI, wrapU, decide_eq_true, decide_eq_false, beqT, beqF, bneT, bneF, hp0, hg] <;> rfl); simp only [go_sem]) | ((with_reducible apply ops_pureF); rfl; (intro _; simp (disch := (first | omega | assumption | ((repeat' with_reducible apply And.intro) <;> first | omega | assumption | rfl | (apply Or.inl; rfl) | (apply Or.inr; first | rfl | trivial | fail) | fail) | fail)) only [go_sem, if_pos, if_neg, wrapI, wrapU, decide_eq_true, decide_eq_false, beqT, beqF, bneT, bneF, hp0, hg] <;> rfl); simp only [go_sem]) | ((with_reducible apply ops_pureD); kernel_rfl; rfl; (simp (disch := (first | omega | assumption | ((repeat' with_reducible apply And.intro) <;> first | omega | assumption | rfl | (apply Or.inl; rfl) | (apply Or.inr; first | rfl | trivial | fail) | fail) | fail)) only [go_sem, if_pos, if_neg, wrapI, wrapU, decide_eq_true, decide_eq_false, beqT, beqF, bneT, bneF, hp0, hg] <;> rfl); simp only [go_sem]) | ((with_reducible apply ops_skip); rfl; simp only [go_sem]) | ((with_reducible apply c_regionD); kernel_rfl) | ((with_reducible apply ops_eff); decide; rfl; (simp (disch := (first | omega | assumption | ((repeat' with_reducible apply And.intro) <;> first | omega | assumption | rfl | (apply Or.inl; rfl) | (apply Or.inr; first | rfl | trivial | fail) | fail) | fail)) only [go_sem, if_pos, if_neg, wrapI, wrapU, decide_eq_true, decide_eq_false, beqT, beqF, bneT, bneF, hp0, hg] <;> rfl); simp only [go_sem])); (repeat (first | with_reducible (first | refine c_seq ?_ | refine c_block ?_ | refine c_skip ?_ | refine c_exit ?_ | refine c_ret ?_ | refine then_normal ?_ | refine then_exit ?_ | refine then_ret ?_ | refine block_normal ?_ | refine block_here ?_ | refine block_ret ?_ | refine block_far (by decide) ?_ | refine ops_nil ?_ | refine c_cond_t rfl ?_ | refine c_cond_f rfl ?_) | ((with_reducible apply ops_pure); rfl; (simp (disch := (first | omega | assumption | ((repeat' with_reducible apply And.intro) <;> first | omega | assumption | rfl | (apply Or.inl; rfl) | (apply Or.inr; first | rfl | trivial | fail) | fail) | fail)) only [go_sem, if_pos, if_neg, wrapI, wrapU, decide_eq_true, decide_eq_false, beqT, beqF, bneT, bneF, hp0, hg] <;> rfl); simp only [go_sem]) | ((with_reducible apply ops_pureF); rfl; (intro _; simp (disch := (first | omega | assumption | ((repeat' with_reducible apply And.intro) <;> first | omega | assumption | rfl | (apply Or.inl; rfl) | (apply Or.inr; first | rfl | trivial | fail) | fail) | fail)) only [go_sem, if_pos, if_neg, wrapI, wrapU, decide_eq_true, decide_eq_false, beqT, beqF, bneT, bneF, hp0, hg] <;> rfl); simp only [go_sem]) | ((with_reducible apply ops_pureD); kernel_rfl; rfl; (simp (disch := (first | omega | assumption | ((repeat' with_reducible apply And.intro) <;> first | omega | assumption | rfl | (apply Or.inl; rfl) | (apply Or.inr; first | rfl | trivial | fail) | fail) | fail)) only [go_sem, if_pos, if_neg, wrapI, wrapU, decide_eq_true, decide_eq_false, beqT, beqF, bneT, bneF, hp0, hg] <;> rfl); simp only [go_sem]) | ((with_reducible apply ops_skip); rfl; simp only [go_sem]) | ((with_reducible apply c_regionD); kernel_rfl) | ((with_reducible apply ops_eff); decide; rfl; (simp (disch := (first | omega | assumption | ((repeat' with_reducible apply And.intro) <;> first | omega | assumption | rfl | (apply Or.inl; rfl) | (apply Or.inr; first | rfl | trivial | fail) | fail) | fail)) only [go_sem, if_pos, if_neg, wrapI, wrapU, decide_eq_true, decide_eq_false, beqT, beqF, bneT, bneF, hp0, hg] <;> rfl); simp only [go_sem]))); exact k.get)) : p := h k
theorem tysv {p : Prop} (h : p := by simp (disch := (first | omega | assumption | ((repeat' with_reducible apply And.intro) <;> first | omega | assumption | rfl | (apply Or.inl; rfl) | (apply Or.inr; first | rfl | trivial | fail) | fail) | fail)) only [go_sem, if_pos, if_neg, wrapI, wrapU, decide_eq_true, decide_eq_false, beqT, beqF, bneT, bneF, hp0, hg] <;> rfl) : p := h
theorem tycall {T : Tab} {X : CallP} {n0 lo : Nat} {wt : List Tmp} {draw : Bool} {ops : Array Oper} {Q : St → Prop} {rest : List Oper} {o : Oper} {env : List D} {sto : Sto} {f : FuncId} {args : List D} (k : ∃ r, X f args sto (if draw then sto.length else lo) r sto ∧ EvOps T X n0 lo wt draw ops Q rest (St.put ⟨env, sto⟩ o.dst r)) (hg : guardD ops o env = some true := by rfl) (h : evCallee (opd env) sto o = some (f, args) := by simp (disch := (first | omega | assumption | ((repeat' with_reducible apply And.intro) <;> first | omega | assumption | rfl | (apply Or.inl; rfl) | (apply Or.inr; first | rfl | trivial | fail) | fail) | fail)) only [go_sem, if_pos, if_neg, wrapI, wrapU, decide_eq_true, decide_eq_false, beqT, beqF, bneT, bneF, hp0, hg] <;> rfl) : EvOps T X n0 lo wt draw ops Q (o :: rest) ⟨env, sto⟩ := k.elim fun _ k => ops_call hg h k.1 k.2
set_option linter.unusedSimpArgs false
set_option linter.unusedVariables false
set_option maxRecDepth 100000
set_option maxHeartbeats 20000000
theorem ho_mp {n0 lo : Nat} {sto l l' : Sto} {id : Nat} {kvs : List (Int × V)} {X : Ent} (hn : n0 ≤ sto.length) (hid : id < sto.length) : ∀ i es, lo ≤ i → i < n0 → (sto.set id (.map .i64 kvs) ++ l)[i]? = some (.cells es) → (sto.set id X ++ l')[i]? = some (.cells es) ∨ scopedL n0 es = true := by
  intro i es _ hi h
  rw [List.getElem?_append_left (by simp; omega)] at h ⊢
  rcases Nat.decEq id i with hne | rfl
  · rw [List.getElem?_set_ne hne] at h ⊢; exact .inl h
  · rw [List.getElem?_set_self hid] at h; cases h
/-- The entry of the checker's map. -/
abbrev mpE (mp : List (Int × Int)) : Ent := .map .i64 (mapV mp)
theorem c_sto {T : Tab} {X : CallP} {n0 lo : Nat} {wt : List Tmp} {c : Code} {R : Exit → St → Prop} {env : List D} {sto sto' : Sto} (h : sto' = sto) (k : EvC T X n0 lo wt c R ⟨env, sto'⟩) : EvC T X n0 lo wt c R ⟨env, sto⟩ := h ▸ k
def snd4 : Code → Code
  | .seq _ (.seq _ (.seq _ (.seq _ c))) => c
  | c => c
/-- The code behind the kids. -/
def tyTail (f : Func) : Code := match f.body with
  | some c => snd4 c
  | none => .skip
theorem c_is {T : Tab} {X : CallP} {n0 lo : Nat} {wt : List Tmp} {c c' : Code} {R : Exit → St → Prop} {st : St} (h : c = c') (k : EvC T X n0 lo wt c' R st) : EvC T X n0 lo wt c R st := h ▸ k
end Go.Proofs.YtomameefmobnlaaDoor
