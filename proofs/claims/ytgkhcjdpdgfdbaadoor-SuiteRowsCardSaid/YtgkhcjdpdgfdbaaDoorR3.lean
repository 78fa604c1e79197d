/-
  Sorted lists of numbers: plain facts. No condition of its own. The library's sort at uint, of at most twelve elements, on plain data. No condition of its own. slices.AppendSeq(nil, slices.Values(s)), for slices of one-cell elements: the same elements in a slice of the call's own. No condition of its own. The library's sort at uint, of at most twelve elements, and what stands on it, on plain data. No condition of its own. Leaving out what stands next to its like: plain facts. No condition of its own. slices.Compact, slices.Values, slices.Sorted at uint, on plain data. No condition of its own. slices.Sorted at uint, of at most twelve elements, on plain data. No condition of its own. Package suite: of, least. No condition of its own. slices.Compact at uint in whatever entries, on plain data. No condition of its own. Package suite: least. No condition of its own. Package suite: shows at a leaf. No condition of its own. Suite's small functions: what they compute. No condition of its own. Suite's reference, more functions: what they compute. No condition of its own. Suite's reference, more functions: what they compute. No condition of its own. Suite's reference: before, Least. No condition of its own. Suite: laws for shows. No condition of its own. Suite's reference: shows at a leaf. No condition of its own. Suite's reference: shows at an inner node. No condition of its own. Suite's reference: shows, Check. No condition of its own. Suite's reference: Possible. No condition of its own. Suite's reference: Check. No condition of its own. Package suite: what of returns, in short. No condition of its own. Package suite: Greedy. No condition of its own. Package suite: the certificate that Least makes: plain. No condition of its own.
-/
import Derived.Test.YtgkhcjdpdgfdbaaDoorR2
import Derived.RangeFuncGives
import Derived.RangeFuncBox
import Derived.RangeFuncLeaves
import Derived.Maps.AppendAt
import Derived.Shelf.Abstract
import Derived.WalkKit
import Derived.OwnWalkIn
import Derived.TacticsInMore
import Derived.LoopNIn
import Derived.LoopIn
import Derived.Test.YtgkhcjdpdgfdbaaDoorProg
namespace Go.Proofs.YtgkhcjdpdgfdbaaDoor
abbrev sortN (xs : List Nat) : List Nat := xs.mergeSort fun a b => decide (a ≤ b)
theorem sortN_sorted (xs : List Nat) : (sortN xs).Pairwise (· ≤ ·) := by
  have := List.pairwise_mergeSort (le := fun a b : Nat => decide (a ≤ b)) (by intro a b c; simp; omega) (by intro a b; simp; omega) xs
  simpa using this
theorem sortN_perm (xs : List Nat) : (sortN xs).Perm xs := List.mergeSort_perm _ _
theorem sortN_eq {ys xs : List Nat} (hs : ys.Pairwise (· ≤ ·)) (hp : ys.Perm xs) : ys = sortN xs :=
  List.Perm.eq_of_pairwise (le := (· ≤ ·)) (fun a b _ _ h1 h2 => by omega) hs (sortN_sorted xs) (hp.trans (sortN_perm xs).symm)
/-- In the middle of an insertion: x on its way down through what is sorted. -/
structure Ins (xs zs : List Nat) (i : Nat) (A : List Nat) (x : Nat) (B R : List Nat) : Prop where
  eq : zs = A ++ x :: (B ++ R)
  len : A.length + B.length = i
  srt : (A ++ B).Pairwise (· ≤ ·)
  low : ∀ b ∈ B, x ≤ b
  perm : zs.Perm xs
theorem Ins.start {xs zs : List Nat} {i : Nat} (hs : (zs.take i).Pairwise (· ≤ ·)) (hp : zs.Perm xs) (hi : i < zs.length) : Ins xs zs i (zs.take i) zs[i] [] (zs.drop (i + 1)) := by
  refine ⟨?_, by simp; omega, by simpa using hs, (fun b h => by cases h), hp⟩
  rw [List.nil_append, ← List.drop_eq_getElem_cons hi, List.take_append_drop]
theorem Ins.step {xs zs : List Nat} {i : Nat} {A : List Nat} {y x : Nat} {B R : List Nat} (h : Ins xs zs i (A ++ [y]) x B R) (hlt : x < y) : Ins xs ((zs.set (A.length + 1) y).set A.length x) i A x (y :: B) R := by
  obtain ⟨rfl, h2, h3, h4, h5⟩ := h
  have e : ((((A ++ [y]) ++ x :: (B ++ R)).set (A.length + 1) y).set A.length x) = A ++ x :: (y :: B ++ R) := by
    rw [List.append_assoc, List.set_append_right _ _ (by omega), show A.length + 1 - A.length = 1 from by omega]
    rw [List.set_append_right _ _ (by omega), Nat.sub_self]
    simp
  refine ⟨e, by simp at h2 ⊢; omega, by simpa using h3, fun b hb => ?_, ?_⟩
  · rcases List.mem_cons.1 hb with rfl | hb
    · omega
    · exact h4 b hb
  · rw [e]
    refine List.Perm.trans ?_ h5
    simp only [List.append_assoc, List.cons_append, List.nil_append]
    exact List.Perm.append_left A (List.Perm.swap y x _)
theorem Ins.done {xs zs : List Nat} {i : Nat} {A : List Nat} {x : Nat} {B R : List Nat} (h : Ins xs zs i A x B R) (hl : ∀ y, A.getLast? = some y → y ≤ x) : (zs.take (i + 1)).Pairwise (· ≤ ·) ∧ zs.Perm xs := by
  obtain ⟨rfl, h2, h3, h4, h5⟩ := h
  refine ⟨?_, h5⟩
  have e : (A ++ x :: (B ++ R)).take (i + 1) = A ++ x :: B := by
    rw [List.take_append, List.take_of_length_le (by omega), show i + 1 - A.length = B.length + 1 from by omega, List.take_succ_cons, List.take_append_of_le_length (Nat.le_refl _), List.take_length]
  rw [e]
  rw [List.pairwise_append] at h3 ⊢
  obtain ⟨a1, a2, a3⟩ := h3
  refine ⟨a1, List.pairwise_cons.2 ⟨h4, a2⟩, fun a ha b hb => ?_⟩
  have hax : a ≤ x := by
    cases hg : A.getLast? with
    | none => rw [List.getLast?_eq_none_iff] at hg; subst hg; cases ha
    | some y =>
      have hy := hl y hg
      obtain ⟨A', rfl⟩ := List.getLast?_eq_some_iff.1 hg
      rcases List.mem_append.1 ha with h | h
      · have := (List.pairwise_append.1 a1).2.2 a h y (by simp)
        omega
      · rw [List.mem_singleton.1 h]; exact hy
  rcases List.mem_cons.1 hb with rfl | hb
  · exact hax
  · exact a3 a ha b hb
end Go.Proofs.YtgkhcjdpdgfdbaaDoor
namespace Go.Proofs.YtgkhcjdpdgfdbaaDoor
open Go Go.RowKit

attribute [local irreducible] EvOps EvC
theorem lsgo {p q : Prop} (k : Later q) (h : Later q → p := by (intro k; (first | with_reducible (first | refine c_seq ?_ | refine c_block ?_ | refine c_region ?_ | refine c_skip ?_ | refine c_exit ?_ | refine c_ret ?_ | refine then_normal ?_ | refine then_exit ?_ | refine then_ret ?_ | refine block_normal ?_ | refine block_here ?_ | refine block_ret ?_ | refine block_far (by decide) ?_ | refine ops_nil ?_ | refine c_cond_t rfl ?_ | refine c_cond_f rfl ?_) | ((with_reducible apply ops_pure); rfl; (simp (disch := (first | omega | assumption | (simp only [List.length_set, List.length_map]; omega) | ((repeat' with_reducible apply And.intro) <;> first | omega | assumption | rfl | (simp only [List.length_set, List.length_map]; omega) | (apply Or.inl; rfl) | (apply Or.inr; first | rfl | trivial | fail) | fail) | fail)) only [go_sem, if_pos, if_neg, wrapI, wrapU, decide_eq_true, decide_eq_false, beqT, beqF, bneT, bneF] <;> rfl); simp only [go_sem]) | ((with_reducible apply ops_pureF); rfl; (intro _; simp (disch := (first | omega | assumption | (simp only [List.length_set, List.length_map]; omega) | ((repeat' with_reducible apply And.intro) <;> first | omega | assumption | rfl | (simp only [List.length_set, List.length_map]; omega) | (apply Or.inl; rfl) | (apply Or.inr; first | rfl | trivial | fail) | fail) | fail)) only [go_sem, if_pos, if_neg, wrapI, wrapU, decide_eq_true, decide_eq_false, beqT, beqF, bneT, bneF] <;> rfl); simp only [go_sem]) | ((with_reducible apply ops_pureD); kernel_rfl; rfl; (simp (disch := (first | omega | assumption | (simp only [List.length_set, List.length_map]; omega) | ((repeat' with_reducible apply And.intro) <;> first | omega | assumption | rfl | (simp only [List.length_set, List.length_map]; omega) | (apply Or.inl; rfl) | (apply Or.inr; first | rfl | trivial | fail) | fail) | fail)) only [go_sem, if_pos, if_neg, wrapI, wrapU, decide_eq_true, decide_eq_false, beqT, beqF, bneT, bneF] <;> rfl); simp only [go_sem]) | ((with_reducible apply ops_skip); rfl; simp only [go_sem]) | ((with_reducible apply c_regionD); kernel_rfl) | ((with_reducible apply ops_eff); decide; rfl; (simp (disch := (first | omega | assumption | (simp only [List.length_set, List.length_map]; omega) | ((repeat' with_reducible apply And.intro) <;> first | omega | assumption | rfl | (simp only [List.length_set, List.length_map]; omega) | (apply Or.inl; rfl) | (apply Or.inr; first | rfl | trivial | fail) | fail) | fail)) only [go_sem, if_pos, if_neg, wrapI, wrapU, decide_eq_true, decide_eq_false, beqT, beqF, bneT, bneF] <;> rfl); simp only [go_sem])); (repeat (first | with_reducible (first | refine c_seq ?_ | refine c_block ?_ | refine c_region ?_ | refine c_skip ?_ | refine c_exit ?_ | refine c_ret ?_ | refine then_normal ?_ | refine then_exit ?_ | refine then_ret ?_ | refine block_normal ?_ | refine block_here ?_ | refine block_ret ?_ | refine block_far (by decide) ?_ | refine ops_nil ?_ | refine c_cond_t rfl ?_ | refine c_cond_f rfl ?_) | ((with_reducible apply ops_pure); rfl; (simp (disch := (first | omega | assumption | (simp only [List.length_set, List.length_map]; omega) | ((repeat' with_reducible apply And.intro) <;> first | omega | assumption | rfl | (simp only [List.length_set, List.length_map]; omega) | (apply Or.inl; rfl) | (apply Or.inr; first | rfl | trivial | fail) | fail) | fail)) only [go_sem, if_pos, if_neg, wrapI, wrapU, decide_eq_true, decide_eq_false, beqT, beqF, bneT, bneF] <;> rfl); simp only [go_sem]) | ((with_reducible apply ops_pureF); rfl; (intro _; simp (disch := (first | omega | assumption | (simp only [List.length_set, List.length_map]; omega) | ((repeat' with_reducible apply And.intro) <;> first | omega | assumption | rfl | (simp only [List.length_set, List.length_map]; omega) | (apply Or.inl; rfl) | (apply Or.inr; first | rfl | trivial | fail) | fail) | fail)) only [go_sem, if_pos, if_neg, wrapI, wrapU, decide_eq_true, decide_eq_false, beqT, beqF, bneT, bneF] <;> rfl); simp only [go_sem]) | ((with_reducible apply ops_pureD); kernel_rfl; rfl; (simp (disch := (first | omega | assumption | (simp only [List.length_set, List.length_map]; omega) | ((repeat' with_reducible apply And.intro) <;> first | omega | assumption | rfl | (simp only [List.length_set, List.length_map]; omega) | (apply Or.inl; rfl) | (apply Or.inr; first | rfl | trivial | fail) | fail) | fail)) only [go_sem, if_pos, if_neg, wrapI, wrapU, decide_eq_true, decide_eq_false, beqT, beqF, bneT, bneF] <;> rfl); simp only [go_sem]) | ((with_reducible apply ops_skip); rfl; simp only [go_sem]) | ((with_reducible apply c_regionD); kernel_rfl) | ((with_reducible apply ops_eff); decide; rfl; (simp (disch := (first | omega | assumption | (simp only [List.length_set, List.length_map]; omega) | ((repeat' with_reducible apply And.intro) <;> first | omega | assumption | rfl | (simp only [List.length_set, List.length_map]; omega) | (apply Or.inl; rfl) | (apply Or.inr; first | rfl | trivial | fail) | fail) | fail)) only [go_sem, if_pos, if_neg, wrapI, wrapU, decide_eq_true, decide_eq_false, beqT, beqF, bneT, bneF] <;> rfl); simp only [go_sem]))); exact k.get)) : p := h k
theorem lsgoX {p q : Prop} (k : Later q) (h : Later q → p := by (intro k; (first | with_reducible (first | refine c_seq ?_ | refine c_block ?_ | refine c_skip ?_ | refine c_exit ?_ | refine c_ret ?_ | refine then_normal ?_ | refine then_exit ?_ | refine then_ret ?_ | refine block_normal ?_ | refine block_here ?_ | refine block_ret ?_ | refine block_far (by decide) ?_ | refine ops_nil ?_ | refine c_cond_t rfl ?_ | refine c_cond_f rfl ?_) | ((with_reducible apply ops_pure); rfl; (simp (disch := (first | omega | assumption | (simp only [List.length_set, List.length_map]; omega) | ((repeat' with_reducible apply And.intro) <;> first | omega | assumption | rfl | (simp only [List.length_set, List.length_map]; omega) | (apply Or.inl; rfl) | (apply Or.inr; first | rfl | trivial | fail) | fail) | fail)) only [go_sem, if_pos, if_neg, wrapI, wrapU, decide_eq_true, decide_eq_false, beqT, beqF, bneT, bneF] <;> rfl); simp only [go_sem]) | ((with_reducible apply ops_pureF); rfl; (intro _; simp (disch := (first | omega | assumption | (simp only [List.length_set, List.length_map]; omega) | ((repeat' with_reducible apply And.intro) <;> first | omega | assumption | rfl | (simp only [List.length_set, List.length_map]; omega) | (apply Or.inl; rfl) | (apply Or.inr; first | rfl | trivial | fail) | fail) | fail)) only [go_sem, if_pos, if_neg, wrapI, wrapU, decide_eq_true, decide_eq_false, beqT, beqF, bneT, bneF] <;> rfl); simp only [go_sem]) | ((with_reducible apply ops_pureD); kernel_rfl; rfl; (simp (disch := (first | omega | assumption | (simp only [List.length_set, List.length_map]; omega) | ((repeat' with_reducible apply And.intro) <;> first | omega | assumption | rfl | (simp only [List.length_set, List.length_map]; omega) | (apply Or.inl; rfl) | (apply Or.inr; first | rfl | trivial | fail) | fail) | fail)) only [go_sem, if_pos, if_neg, wrapI, wrapU, decide_eq_true, decide_eq_false, beqT, beqF, bneT, bneF] <;> rfl); simp only [go_sem]) | ((with_reducible apply ops_skip); rfl; simp only [go_sem]) | ((with_reducible apply c_regionD); kernel_rfl) | ((with_reducible apply ops_eff); decide; rfl; (simp (disch := (first | omega | assumption | (simp only [List.length_set, List.length_map]; omega) | ((repeat' with_reducible apply And.intro) <;> first | omega | assumption | rfl | (simp only [List.length_set, List.length_map]; omega) | (apply Or.inl; rfl) | (apply Or.inr; first | rfl | trivial | fail) | fail) | fail)) only [go_sem, if_pos, if_neg, wrapI, wrapU, decide_eq_true, decide_eq_false, beqT, beqF, bneT, bneF] <;> rfl); simp only [go_sem])); (repeat (first | with_reducible (first | refine c_seq ?_ | refine c_block ?_ | refine c_skip ?_ | refine c_exit ?_ | refine c_ret ?_ | refine then_normal ?_ | refine then_exit ?_ | refine then_ret ?_ | refine block_normal ?_ | refine block_here ?_ | refine block_ret ?_ | refine block_far (by decide) ?_ | refine ops_nil ?_ | refine c_cond_t rfl ?_ | refine c_cond_f rfl ?_) | ((with_reducible apply ops_pure); rfl; (simp (disch := (first | omega | assumption | (simp only [List.length_set, List.length_map]; omega) | ((repeat' with_reducible apply And.intro) <;> first | omega | assumption | rfl | (simp only [List.length_set, List.length_map]; omega) | (apply Or.inl; rfl) | (apply Or.inr; first | rfl | trivial | fail) | fail) | fail)) only [go_sem, if_pos, if_neg, wrapI, wrapU, decide_eq_true, decide_eq_false, beqT, beqF, bneT, bneF] <;> rfl); simp only [go_sem]) | ((with_reducible apply ops_pureF); rfl; (intro _; simp (disch := (first | omega | assumption | (simp only [List.length_set, List.length_map]; omega) | ((repeat' with_reducible apply And.intro) <;> first | omega | assumption | rfl | (simp only [List.length_set, List.length_map]; omega) | (apply Or.inl; rfl) | (apply Or.inr; first | rfl | trivial | fail) | fail) | fail)) only [go_sem, if_pos, if_neg, wrapI, wrapU, decide_eq_true, decide_eq_false, beqT, beqF, bneT, bneF] <;> rfl); simp only [go_sem]) | ((with_reducible apply ops_pureD); kernel_rfl; rfl; (simp (disch := (first | omega | assumption | (simp only [List.length_set, List.length_map]; omega) | ((repeat' with_reducible apply And.intro) <;> first | omega | assumption | rfl | (simp only [List.length_set, List.length_map]; omega) | (apply Or.inl; rfl) | (apply Or.inr; first | rfl | trivial | fail) | fail) | fail)) only [go_sem, if_pos, if_neg, wrapI, wrapU, decide_eq_true, decide_eq_false, beqT, beqF, bneT, bneF] <;> rfl); simp only [go_sem]) | ((with_reducible apply ops_skip); rfl; simp only [go_sem]) | ((with_reducible apply c_regionD); kernel_rfl) | ((with_reducible apply ops_eff); decide; rfl; (simp (disch := (first | omega | assumption | (simp only [List.length_set, List.length_map]; omega) | ((repeat' with_reducible apply And.intro) <;> first | omega | assumption | rfl | (simp only [List.length_set, List.length_map]; omega) | (apply Or.inl; rfl) | (apply Or.inr; first | rfl | trivial | fail) | fail) | fail)) only [go_sem, if_pos, if_neg, wrapI, wrapU, decide_eq_true, decide_eq_false, beqT, beqF, bneT, bneF] <;> rfl); simp only [go_sem]))); exact k.get)) : p := h k
theorem lssv {p : Prop} (h : p := by simp (disch := (first | omega | assumption | (simp only [List.length_set, List.length_map]; omega) | ((repeat' with_reducible apply And.intro) <;> first | omega | assumption | rfl | (simp only [List.length_set, List.length_map]; omega) | (apply Or.inl; rfl) | (apply Or.inr; first | rfl | trivial | fail) | fail) | fail)) only [go_sem, if_pos, if_neg, wrapI, wrapU, decide_eq_true, decide_eq_false, beqT, beqF, bneT, bneF] <;> rfl) : p := h
theorem lscall {T : Tab} {X : CallP} {n0 lo : Nat} {wt : List Tmp} {draw : Bool} {ops : Array Oper} {Q : St → Prop} {rest : List Oper} {o : Oper} {env : List D} {sto : Sto} {f : FuncId} {args : List D} (k : ∃ r, X f args sto (if draw then sto.length else lo) r sto ∧ EvOps T X n0 lo wt draw ops Q rest (St.put ⟨env, sto⟩ o.dst r)) (hg : guardD ops o env = some true := by rfl) (h : evCallee (opd env) sto o = some (f, args) := by simp (disch := (first | omega | assumption | (simp only [List.length_set, List.length_map]; omega) | ((repeat' with_reducible apply And.intro) <;> first | omega | assumption | rfl | (simp only [List.length_set, List.length_map]; omega) | (apply Or.inl; rfl) | (apply Or.inr; first | rfl | trivial | fail) | fail) | fail)) only [go_sem, if_pos, if_neg, wrapI, wrapU, decide_eq_true, decide_eq_false, beqT, beqF, bneT, bneF] <;> rfl) : EvOps T X n0 lo wt draw ops Q (o :: rest) ⟨env, sto⟩ := k.elim fun _ k => ops_call hg h k.1 k.2
theorem predN (k : Nat) : (((k + 1 : Nat) : Int) - 1).toNat = k := by omega
attribute [local go_sem] predN List.getElem_set_self List.set_set getS mapSet List.getElem_map List.length_set
set_option linter.unusedSimpArgs false
set_option linter.unusedVariables false
set_option maxRecDepth 100000
set_option maxHeartbeats 8000000
theorem isNaNU_ev (x : Nat) (sto : Sto) (lo : Nat) (hlo : lo ≤ sto.length) : CallEv Tryd.prog tab B0 94 [.v (VU x)] sto lo (.v (.bool false)) sto := by
  refine CallEv.intro ⟨_, _, [], Tryd.func94, rfl, by decide, ?_⟩; simp only [go_sem, Tryd.ntmps94]
  repeat' (first | (refine lsgo ⟨?_⟩) | (fail) | ((first | (refine bsp ?_ ?_) | (refine csp ?_ ?_)); all_goals (intro hb; (fail_if_success (cases hb; done)); (try simp only [decide_eq_true_eq, decide_eq_false_iff_not, beq_iff_eq, bne_iff_ne, ne_eq, beq_eq_false_iff_ne, bne_eq_false_iff_eq, Bool.not_eq_true', Bool.not_eq_false', Bool.and_eq_true, Bool.or_eq_true, Decidable.not_not] at hb); (try simp only [go_sem]))))
  refine ⟨by first | exact .inr rfl | exact .inl rfl, .inl ⟨[], _, (by dsimp only [Tryd.f94]; exact lssv), ?_, by simp⟩⟩
  simp
theorem lessU_ev (x y : Nat) (sto : Sto) (lo : Nat) (hlo : lo ≤ sto.length) : CallEv Tryd.prog tab B0 83 [.v (VU x), .v (VU y)] sto lo (.v (.bool (decide (x < y)))) sto := by
  refine CallEv.intro ⟨_, _, [], Tryd.func83, rfl, by decide, ?_⟩; simp only [go_sem, Tryd.ntmps83]
  repeat' (first | (refine lsgo ⟨?_⟩) | (((refine lscall ?_); (refine ⟨_, isNaNU_ev _ _ _ (by first | omega | (simp; done) | (simp; omega)), ?_⟩); (try simp only [go_sem]))) | ((first | (refine bsp ?_ ?_) | (refine csp ?_ ?_)); all_goals (intro hb; (fail_if_success (cases hb; done)); (try simp only [decide_eq_true_eq, decide_eq_false_iff_not, beq_iff_eq, bne_iff_ne, ne_eq, beq_eq_false_iff_ne, bne_eq_false_iff_eq, Bool.not_eq_true', Bool.not_eq_false', Bool.and_eq_true, Bool.or_eq_true, Decidable.not_not] at hb); (try simp only [go_sem]))))
  refine ⟨by first | exact .inr rfl | exact .inl rfl, .inl ⟨[], _, (by dsimp only [Tryd.f83]; exact lssv), ?_, by simp⟩⟩
  simp
theorem insertionU_ev (xs : List Nat) (es : Option (TypeId × Nat)) (id : Nat) (hx : xs.length < 1000000000) (hes : es = some (67, 1)) (sto : Sto) (lo : Nat) (hlo : lo ≤ sto.length) (hl : lo ≤ id) (hid : id < sto.length) (hsto : sto = sto.set id (.arr es true xs.length (xs.map VU))) : CallEv Tryd.prog tab B0 77 [.arr id xs.length, .v (VI 0), .v (VI xs.length)] sto lo (.v (.tup [])) (sto.set id (.arr es true xs.length ((sortN xs).map VU))) := by
  rw [hsto]
  simp only [List.set_set]
  subst hes
  refine CallEv.intro ⟨_, _, [], Tryd.func77, rfl, by decide, ?_⟩; simp only [go_sem, Tryd.ntmps77]
  repeat' (first | (refine lsgo ⟨?_⟩) | (fail) | ((first | (refine bsp ?_ ?_) | (refine csp ?_ ?_)); all_goals (intro hb; (fail_if_success (cases hb; done)); (try simp only [decide_eq_true_eq, decide_eq_false_iff_not, beq_iff_eq, bne_iff_ne, ne_eq, beq_eq_false_iff_ne, bne_eq_false_iff_eq, Bool.not_eq_true', Bool.not_eq_false', Bool.and_eq_true, Bool.or_eq_true, Decidable.not_not] at hb); (try simp only [go_sem]))))
  refine c_loop (fun m s => ∃ (i : Nat) (zs : List Nat), (i ≤ xs.length + 1 ∧ 1 ≤ i ∧ m = xs.length - i ∧ zs.length = xs.length ∧ zs.Perm xs ∧ (zs.take i).Pairwise (· ≤ ·)) ∧ (s.env.length = 49 ∧ s.sto = sto.set id (.arr (some (67, 1)) true xs.length (zs.map VU)) ∧ s.env[0]? = some (.arr id xs.length) ∧ s.env[1]? = some (.v (VI 0)) ∧ s.env[2]? = some (.v (VI xs.length)) ∧ s.env[6]? = some (.v (VI i)))) (.refl _) ⟨1, xs, ⟨by omega, by omega, rfl, rfl, .refl _, ?_⟩, rfl, rfl, ?_, ?_, ?_, ?_⟩ ?_
  all_goals first | rfl | skip
  · rcases xs with _ | ⟨a, _ | ⟨b, l⟩⟩ <;> simp
  rintro m s ⟨i, zs, ⟨h1, h1', rfl, hzl, hp, hs⟩, hL, hT, k0, k1, k2, k6⟩
  obtain ⟨env, st0⟩ := s; obtain ⟨J, hJ⟩ := listJ hL; rw [show (List.range 49).map J = J 0 :: J 1 :: J 2 :: J 3 :: J 4 :: J 5 :: J 6 :: J 7 :: J 8 :: J 9 :: J 10 :: J 11 :: J 12 :: J 13 :: J 14 :: J 15 :: J 16 :: J 17 :: J 18 :: J 19 :: J 20 :: J 21 :: J 22 :: J 23 :: J 24 :: J 25 :: J 26 :: J 27 :: J 28 :: J 29 :: J 30 :: J 31 :: J 32 :: J 33 :: J 34 :: J 35 :: J 36 :: J 37 :: J 38 :: J 39 :: J 40 :: J 41 :: J 42 :: J 43 :: J 44 :: J 45 :: J 46 :: J 47 :: J 48 :: [] from by kernel_rfl] at hJ; replace k0 := Option.some.inj ((congrArg (·[0]?) hJ).symm.trans k0); replace k1 := Option.some.inj ((congrArg (·[1]?) hJ).symm.trans k1); replace k2 := Option.some.inj ((congrArg (·[2]?) hJ).symm.trans k2); replace k6 := Option.some.inj ((congrArg (·[6]?) hJ).symm.trans k6); rw [k0, k1, k2, k6] at hJ; dsimp only at hJ hT; subst hJ; replace hT := hT.symm; subst hT; clear hL k0 k1 k2 k6
  by_cases hi : i < xs.length
  · repeat' (first | (refine lsgo ⟨?_⟩) | (fail) | ((first | (refine bsp ?_ ?_) | (refine csp ?_ ?_)); all_goals (intro hb; (fail_if_success (cases hb; done)); (try simp only [decide_eq_true_eq, decide_eq_false_iff_not, beq_iff_eq, bne_iff_ne, ne_eq, beq_eq_false_iff_ne, bne_eq_false_iff_eq, Bool.not_eq_true', Bool.not_eq_false', Bool.and_eq_true, Bool.or_eq_true, Decidable.not_not] at hb); (try simp only [go_sem]))))
    have hins := Ins.start hs hp (by omega : i < zs.length)
    obtain ⟨A0, hA0⟩ : ∃ A0, A0 = zs.take i := ⟨_, rfl⟩
    have hAl : A0.length = i := by rw [hA0, List.length_take]; omega
    rw [← hA0] at hins
    generalize zs[i] = x0 at hins
    clear hA0
    refine c_loop (fun m s => ∃ (zs2 : List Nat) (A : List Nat) (x : Nat) (B R : List Nat), (zs2.length = xs.length ∧ Ins xs zs2 i A x B R ∧ m = A.length) ∧ (s.env.length = 49 ∧ s.sto = sto.set id (.arr (some (67, 1)) true xs.length (zs2.map VU)) ∧ s.env[0]? = some (.arr id xs.length) ∧ s.env[1]? = some (.v (VI 0)) ∧ s.env[2]? = some (.v (VI xs.length)) ∧ s.env[6]? = some (.v (VI i)) ∧ s.env[7]? = some (.v (VI A.length)))) (.refl _) ⟨zs, A0, x0, _, _, ⟨hzl, hins, rfl⟩, ?_, ?_, ?_, ?_, ?_, ?_, ?_⟩ ?_
    all_goals first | rfl | (rw [hAl]; rfl) | skip
    rintro m s ⟨zs2, A, x, B, R, ⟨hzl2, hI, rfl⟩, hL, hT, k0, k1, k2, k6, k7⟩
    obtain ⟨env, st0⟩ := s; obtain ⟨J, hJ⟩ := listJ hL; rw [show (List.range 49).map J = J 0 :: J 1 :: J 2 :: J 3 :: J 4 :: J 5 :: J 6 :: J 7 :: J 8 :: J 9 :: J 10 :: J 11 :: J 12 :: J 13 :: J 14 :: J 15 :: J 16 :: J 17 :: J 18 :: J 19 :: J 20 :: J 21 :: J 22 :: J 23 :: J 24 :: J 25 :: J 26 :: J 27 :: J 28 :: J 29 :: J 30 :: J 31 :: J 32 :: J 33 :: J 34 :: J 35 :: J 36 :: J 37 :: J 38 :: J 39 :: J 40 :: J 41 :: J 42 :: J 43 :: J 44 :: J 45 :: J 46 :: J 47 :: J 48 :: [] from by kernel_rfl] at hJ; replace k0 := Option.some.inj ((congrArg (·[0]?) hJ).symm.trans k0); replace k1 := Option.some.inj ((congrArg (·[1]?) hJ).symm.trans k1); replace k2 := Option.some.inj ((congrArg (·[2]?) hJ).symm.trans k2); replace k6 := Option.some.inj ((congrArg (·[6]?) hJ).symm.trans k6); replace k7 := Option.some.inj ((congrArg (·[7]?) hJ).symm.trans k7); rw [k0, k1, k2, k6, k7] at hJ; dsimp only at hJ hT; subst hJ; replace hT := hT.symm; subst hT; clear hL k0 k1 k2 k6 k7
    have hlen := hI.len
    rcases List.eq_nil_or_concat A with rfl | ⟨A', y, rfl⟩
    · obtain ⟨d1, d2⟩ := hI.done (fun y h => by simp at h)
      simp only [List.length_nil]
      clear hI
      repeat' (first | (refine lsgo ⟨?_⟩) | (fail) | ((first | (refine bsp ?_ ?_) | (refine csp ?_ ?_)); all_goals (intro hb; (fail_if_success (cases hb; done)); (try simp only [decide_eq_true_eq, decide_eq_false_iff_not, beq_iff_eq, bne_iff_ne, ne_eq, beq_eq_false_iff_ne, bne_eq_false_iff_eq, Bool.not_eq_true', Bool.not_eq_false', Bool.and_eq_true, Bool.or_eq_true, Decidable.not_not] at hb); (try simp only [go_sem]))))
      refine ⟨_, _, ?_, .refl _, i + 1, zs2, ⟨by omega, by omega, rfl, hzl2, d2, d1⟩, rfl, rfl, ?_, ?_, ?_, ?_⟩
      · omega
      all_goals rfl
    · rw [List.concat_eq_append] at hI hlen ⊢
      have hzx : zs2[(A'.length + 1)]? = some x := by rw [hI.eq]; simp
      have hzy : zs2[A'.length]? = some y := by rw [hI.eq]; simp
      simp only [List.length_append, List.length_singleton] at hlen
      obtain ⟨k, hk⟩ : ∃ k, A'.length = k := ⟨_, rfl⟩
      rw [List.length_append, List.length_singleton]
      rw [hk] at hzx hzy hlen ⊢
      have hx' : zs2[k + 1]'(by omega) = x := by rw [List.getElem?_eq_getElem (by omega)] at hzx; exact Option.some.inj hzx
      have hy' : zs2[k]'(by omega) = y := by rw [List.getElem?_eq_getElem (by omega)] at hzy; exact Option.some.inj hzy
      have hd := hI.done
      have hst := hI.step
      clear hI hzx hzy
      have hQ := Lib.hid (And.intro hd hst)
      clear hd hst
      repeat' (first | (refine lsgo ⟨?_⟩) | (((refine lscall ?_); (refine ⟨_, lessU_ev _ _ _ _ (by first | omega | (simp; done) | (simp; omega)), ?_⟩); (try simp only [go_sem]))) | ((first | (refine bsp ?_ ?_) | (refine csp ?_ ?_)); all_goals (intro hb; (fail_if_success (cases hb; done)); (try simp only [decide_eq_true_eq, decide_eq_false_iff_not, beq_iff_eq, bne_iff_ne, ne_eq, beq_eq_false_iff_ne, bne_eq_false_iff_eq, Bool.not_eq_true', Bool.not_eq_false', Bool.and_eq_true, Bool.or_eq_true, Decidable.not_not] at hb); (try simp only [go_sem]))))
      · obtain ⟨hd, hst⟩ := hQ
        refine ⟨_, _, ?_, .refl _, _, A', x, y :: B, R, ⟨by simp only [List.length_set]; exact hzl2, ?_, rfl⟩, rfl, rfl, ?_, ?_, ?_, ?_, ?_⟩
        · omega
        · rw [hx', hy'] at hb
          have := hst hb
          rw [hk] at this
          simp only [hx', hy']
          exact this
        all_goals first | rfl | (rw [hk, show (((k + 1 : Nat) : Int) - 1) = (k : Int) from by omega]; rfl)
      · obtain ⟨hd, hst⟩ := hQ
        obtain ⟨d1, d2⟩ := hd (fun z h => by
          simp at h
          subst h
          rw [hx', hy'] at hb
          omega)
        refine ⟨_, _, ?_, .refl _, i + 1, zs2, ⟨by omega, by omega, rfl, hzl2, d2, d1⟩, rfl, rfl, ?_, ?_, ?_, ?_⟩
        · omega
        all_goals rfl
  · repeat' (first | (refine lsgo ⟨?_⟩) | (fail) | ((first | (refine bsp ?_ ?_) | (refine csp ?_ ?_)); all_goals (intro hb; (fail_if_success (cases hb; done)); (try simp only [decide_eq_true_eq, decide_eq_false_iff_not, beq_iff_eq, bne_iff_ne, ne_eq, beq_eq_false_iff_ne, bne_eq_false_iff_eq, Bool.not_eq_true', Bool.not_eq_false', Bool.and_eq_true, Bool.or_eq_true, Decidable.not_not] at hb); (try simp only [go_sem]))))
    refine ⟨by first | exact .inr rfl | exact .inl rfl, .inl ⟨[], _, (by dsimp only [Tryd.f77]; exact lssv), ?_, ?_⟩⟩
    · rfl
    · (rw [List.take_of_length_le (by simp)])
      rw [sortN_eq (ys := zs) (by rw [List.take_of_length_le (by omega)] at hs; exact hs) hp]
end Go.Proofs.YtgkhcjdpdgfdbaaDoor
namespace Go.Proofs.YtgkhcjdpdgfdbaaDoor
open Go Go.RowKit Go.Shelf
set_option linter.unusedSimpArgs false
set_option linter.unusedVariables false

/-- The assignment and the body of the first range over a function. -/
def rfParts : Code → Option (Code × Code)
  | .seq x y => (rfParts x).or (rfParts y)
  | .block _ c => rfParts c
  | .rangeFunc _ _ a b => some (a, b)
  | _ => none
def apAssign (f : Func) : Code := ((f.body.bind rfParts).getD (.skip, .skip)).1
def apBody (f : Func) : Code := ((f.body.bind rfParts).getD (.skip, .skip)).2
/-- The loop's record: AppendSeq's slots as they stood at the entering: 's' boxed in block Bs; sv: the iterator's value. -/
def apRec (f : Func) (fn : FuncId) (sv : Value) (Bs D : Nat) (st : LoopState) (pend : Option Code) : Loop :=
  { state := st, pending := pend, fn, tmps := #[.slice none 0 0, sv, .pointer (some ⟨Bs, 0, none⟩), undef, .slice none 0 0, undef, sv, undef, undef, undef, undef, undef, undef], params := #[7], assign := apAssign f, body := apBody f, defers := D }
section
variable {W W' : World}
theorem ownsRow_abides_a {row : Option Nat} {base : Nat} {e : TypeId} {size : Nat} {v : Value} {k : Nat} {xs : List Value} (h : W.ownsRow base e size v k xs) (hg : W.grownBy W' row)
    (hrow : ∀ r, row = some r → ∃ o : Obj, W.heap[r]? = some o ∧ o.isWalk = true) : W'.ownsRow base e size v k xs := by
  refine h.kept hg ?_
  rcases h.2 with ⟨rfl, _⟩ | ⟨g, cap, cur, rfl, _, hgb, _⟩
  · exact .inl rfl
  · refine .inr fun e' => ?_
    obtain ⟨o, ho, hw⟩ := hrow g (by simpa [Value.ownBlock] using e'.symm)
    rw [hgb] at ho; cases ho; cases hw
theorem grownBy_putObj_a (W : World) (l : Nat) (o : Obj) : W.grownBy (W.putObj l o) (some l) :=
  ⟨rfl, rfl, rfl, by simp, fun k _ hk => World.putObj_heap_other (fun e => hk (by rw [e]))⟩
theorem grownBy_setCell0_a (W : World) (b : Nat) (v : Value) : W.grownBy (W.setCell ⟨b, 0, none⟩ v) (some b) :=
  ⟨rfl, rfl, rfl, (KeepsWalks.setCell W _ v).size, fun k _ hk => Below.heap_setCell _ _ _ k (fun e => hk (by rw [e]))⟩
theorem ownsRow_ne_a {base : Nat} {e : TypeId} {size : Nat} {v : Value} {k : Nat} {xs : List Value} (h : W.ownsRow base e size v k xs) {j : Nat} {o : Obj} (hj : W.heap[j]? = some o) (hno : ∀ cur, o ≠ .cells cur e (0, 0)) :
    v.ownBlock = none ∨ v.ownBlock ≠ some j := by
  rcases h.2 with ⟨rfl, _⟩ | ⟨g, cap, cur, rfl, _, hgb, _⟩
  · exact .inl rfl
  · refine .inr fun e' => ?_
    have : g = j := by simpa [Value.ownBlock] using e'
    subst this; rw [hgb] at hj; cases hj; exact hno cur rfl
theorem cell_of_box_a {B : Nat} {v : Value} {t : TypeId} (h : W.heap[B]? = some (.cells #[v] t (0, 0))) : W.cell? ⟨B, 0, none⟩ = some v ∧ W.frozen? ⟨B, 0, none⟩ = false := by
  constructor <;> simp [World.cell?, World.frozen?, h]
theorem heap_setCell_box_a {B : Nat} {v : Value} {t : TypeId} (v' : Value) (h : W.heap[B]? = some (.cells #[v] t (0, 0))) : (W.setCell ⟨B, 0, none⟩ v').heap[B]? = some (.cells #[v'] t (0, 0)) := by
  obtain ⟨hlt, hk⟩ := Array.getElem?_eq_some_iff.1 h
  show (W.heap.modify B _)[B]? = _
  rw [Array.getElem?_eq_getElem (by rw [Array.size_modify]; exact hlt), Array.getElem_modify_self, hk]
  rfl
end

set_option maxRecDepth 100000 in
set_option maxHeartbeats 2000000 in
/-- slices.Values's closure. -/
theorem values1_in (F : Fence) (n : Nat) (h7 : F.fn 67) (hro : F.round = none) (hn : 1 ≤ n) (l Bs n₀ b off len cap : Nat) (us : List Value) (hus : us.length = len) (hreach : len * 8 ≤ 140737488351232) (hb : b < n₀) (w0 : World) (J : List Value → World → Prop) (hJB : ∀ pre W, J pre W → Below n₀ w0 W)
    (hY : ∀ pre x W, J pre W → pre.length < len → x ∈ us → YieldAt F (n - 1) Tryd.prog l #[x] W fun e W' => e = .returned (.bool true) ∧ J (pre ++ [x]) W')
    (W : World) (hBs : W.cell? ⟨Bs, 0, none⟩ = some (.slice (some ⟨b, off, none⟩) len cap)) (hc : ∀ j, j < len → w0.cell? ⟨b, off + j, none⟩ = some (us[j]?.getD undef)) (h0 : J [] W) :
    CallsIn F n Tryd.prog 67 #[.func (.yield l) #[] #[], .pointer (some ⟨Bs, 0, none⟩)] W fun e W' => (∃ v, e = .returned v) ∧ J us W' := by
  refine callsIn_of_wp Tryd.func67 rfl h7 ?_ hro
  simp only [Tryd.ntmps67, List.size_toArray, List.length_cons, List.length_nil, Nat.reduceAdd, Nat.reduceSub, Array.replicate_succ, Array.replicate_zero, List.push_toArray, List.append_toArray, List.nil_append, List.cons_append]
  gi_wp2
  gi_loopw [7] (fun i wr => ∃ k : Nat, k ≤ len ∧ i = .int .i64 k ∧ J (us.take k) wr)
    (fun i _ => len - (intOf i).toNat)
  case atStart => exact ⟨0, Nat.zero_le _, rfl, h0⟩
  case round =>
    obtain ⟨k, hk, rfl, hJs⟩ := hrel
    have hcx : k < len → wr.cell? ⟨b, off + k, none⟩ = some (us[k]?.getD undef) := fun h => ((hJB _ _ hJs).cell (p := ⟨b, off + k, none⟩) hb).trans (hc k h)
    by_cases hlt : k < len
    · have hcx' := hcx hlt
      rw [List.getElem?_eq_getElem (by omega), Option.getD_some] at hcx'
      have hYk := hY _ (us[k]'(by omega)) wr hJs (by rw [List.length_take]; omega) (List.getElem_mem _)
      clear hcx
      generalize hux : us[k]'(by omega) = ux at hcx' hYk
      obtain ⟨fn, tmps, assign, body, hy, hR⟩ := hYk
      gi_wp2
      refine hR.mono ?_
      rintro e W3 ⟨rfl, hJ3⟩
      gi_wp2
      go_roundw
      case rel =>
        refine ⟨k + 1, by omega, by simp, ?_⟩
        rw [List.take_succ_eq_append_getElem (by omega)]
        rw [hux]
        exact hJ3
      case measure => simp [intOf]; omega
    · obtain rfl : k = len := by omega
      gi_wp2
      go_end0
      refine ⟨⟨_, rfl⟩, ?_⟩
      rw [List.take_of_length_le (by omega)] at hJs
      exact hJs
set_option maxRecDepth 100000 in
set_option maxHeartbeats 1000000 in
/-- .. at the nil slice, and at an empty one. -/
theorem values1_nil_in (F : Fence) (n : Nat) (h7 : F.fn 67) (hro : F.round = none) (l Bs cap : Nat) (a : Option Addr) (J : List Value → World → Prop) (W : World) (hBs : W.cell? ⟨Bs, 0, none⟩ = some (.slice a 0 cap)) (h0 : J [] W) :
    CallsIn F n Tryd.prog 67 #[.func (.yield l) #[] #[], .pointer (some ⟨Bs, 0, none⟩)] W fun e W' => (∃ v, e = .returned v) ∧ J [] W' := by
  refine callsIn_of_wp Tryd.func67 rfl h7 ?_ hro
  simp only [Tryd.ntmps67, List.size_toArray, List.length_cons, List.length_nil, Nat.reduceAdd, Nat.reduceSub, Array.replicate_succ, Array.replicate_zero, List.push_toArray, List.append_toArray, List.nil_append, List.cons_append]
  gi_wp2
  gi_loopw [7] (fun i wr => i = .int .i64 0 ∧ J [] wr) (fun _ _ => 0)
  case atStart => exact ⟨rfl, h0⟩
  case round =>
    obtain ⟨rfl, hJs⟩ := hrel
    gi_wp2
    go_end0
    exact ⟨⟨_, rfl⟩, hJs⟩
/-- Between two rounds: the box holds a slice that owns what has come so far; nothing that lay before the call has turned. -/
structure ApAt (f : Func) (w0 : World) (fn : FuncId) (sv : Value) (Bs l D : Nat) (ss : List Value) (W : World) : Prop where
  box : ∃ v, W.heap[Bs]? = some (.cells #[v] 62 (0, 0)) ∧ W.ownsRow w0.heap.size 67 1 v ss.length ss ∧ (ss = [] → v = .slice none 0 0)
  L : W.heap[l]? = some (.loop (apRec f fn sv Bs D .ready none))
  K : W.heap[D]? = some (.deferred (some []))
  below : Below w0.heap.size w0 W
theorem info_e : (Tryd.prog.info? 67).map (fun i => (i.zero, i.size, i.bytes)) = some (some (.int .u64 0), 1, 8) := by kernel_rfl
set_option maxRecDepth 100000 in
set_option maxHeartbeats 2000000 in
theorem apYield (F : Fence) (m : Nat) (w0 : World) (fn : FuncId) (hfn : F.fn fn) (sv : Value) (Bs l D : Nat) (hBl : Bs ≠ l) (hDl : D ≠ l) (hDB : D ≠ Bs) (h0B : w0.heap.size ≤ Bs) (h0l : w0.heap.size ≤ l)
    (N : Nat) (hN : N ≤ maxLen) (hNb : N * 8 ≤ 140737488355328) (ss : List Value) (x : Value) (hx1 : x.oneCell' = true) (W : World) (h : ApAt Tryd.f73 w0 fn sv Bs l D ss W) (hlen : ss.length < N) :
    YieldAt F m Tryd.prog l #[x] W fun e W' => e = .returned (.bool true) ∧ ApAt Tryd.f73 w0 fn sv Bs l D (ss ++ [x]) W' := by
  have hne : (62 : Nat) ≠ 67 := by decide
  have hcl : x.cells = #[x] := by cases x <;> first | rfl | cases hx1
  simp only [Value.cells] at hcl
  obtain ⟨i0, hi, hz0, hz1, hz2⟩ := info_parts info_e
  obtain ⟨v, hv, hrow, _⟩ := h.box
  obtain ⟨R, hR⟩ : ∃ R : Ending → World → Prop, R = fun e W' => e = .returned (.bool true) ∧ ApAt Tryd.f73 w0 fn sv Bs l D (ss ++ [x]) W' := ⟨_, rfl⟩
  rw [← hR]
  refine ⟨fn, #[.slice none 0 0, sv, .pointer (some ⟨Bs, 0, none⟩), undef, .slice none 0 0, undef, sv, x, undef, undef, undef, undef, undef], apAssign Tryd.f73, apBody Tryd.f73, by simpa [apRec] using run_yield (P := Tryd.prog) (args := #[x]) h.L rfl, roundIn_of_wpIn hfn ?_⟩
  have hl : l < W.heap.size := (Array.getElem?_eq_some_iff.1 h.L).1
  have hbr := run_beginRound (P := Tryd.prog) h.L rfl
  obtain ⟨W2, hW2⟩ : ∃ W2, W.putObj l (.loop { apRec Tryd.f73 fn sv Bs D .ready none with state := .busy }) = W2 := ⟨_, rfl⟩
  rw [hW2] at hbr
  have hg2 : W.grownBy W2 (some l) := by rw [← hW2]; exact grownBy_putObj_a _ _ _
  have hv2 : W2.heap[Bs]? = some (.cells #[v] 62 (0, 0)) := by rw [← hW2]; exact (World.putObj_heap_other hBl).trans hv
  have hK2 : W2.heap[D]? = some (.deferred (some [])) := by rw [← hW2]; exact (World.putObj_heap_other hDl).trans h.K
  have hL2 : W2.heap[l]? = some (.loop { apRec Tryd.f73 fn sv Bs D .ready none with state := .busy }) := by rw [← hW2]; exact World.putObj_heap_same hl
  have hrow2 : W2.ownsRow w0.heap.size 67 1 v ss.length ss := hrow.kept hg2 (ownsRow_ne_a hrow h.L (fun cur e => by first | cases e | exact hne (Obj.cells.inj e).2.1))
  have hb2 : Below w0.heap.size w0 W2 := h.below.grown hg2 h.below.size (fun k e => by cases e; exact h0l)
  obtain ⟨hc2, hf2⟩ := cell_of_box_a hv2
  have hBlt : Bs < W2.heap.size := (Array.getElem?_eq_some_iff.1 hv2).1
  have hl2 : l < W2.heap.size := (Array.getElem?_eq_some_iff.1 hL2).1
  have hDlt : D < W2.heap.size := (Array.getElem?_eq_some_iff.1 hK2).1
  have ne_of : ∀ {j : Nat} {o : Obj}, W2.heap[j]? = some o → (∀ cur, o ≠ .cells cur 67 (0, 0)) → some j ≠ v.ownBlock := fun hj hno => by
    rcases ownsRow_ne_a hrow2 hj hno with e | e
    · rw [e]; simp
    · exact fun e' => e e'.symm
  clear hW2
  simp only [apAssign, apBody, Tryd.f73, rfParts, Option.bind_some, Option.getD_some, Option.or]
  gi_wp2_with (first
    | (gi_at_builtin; go_loud (refine wpListIn_append_own _ rfl _ _ 62 rfl w0.heap.size 67 i0 (.int .u64 0) 1 8 Tryd.underlying62 hi hz0 hz1 hz2 rfl (by decide) _ _ _ rfl (hrow2.alloc _) ⟨W2.heap.size, 0, none⟩ 1 1 [x] rfl rfl (cell_one_new _ _ _) (by simp [hx1]) (by omega) (by omega) (by have := hb2.size; simp; omega) ?_); intro v' w3 hown' hg3 hnil3
       have hv3 : w3.heap[Bs]? = some (.cells #[v] 62 (0, 0)) := (hg3.block Bs (by simp; omega) (ne_of hv2 (fun cur e => by first | cases e | exact hne (Obj.cells.inj e).2.1))).trans ((Below.heap_alloc _ _ Bs hBlt).trans hv2)
       obtain ⟨hc3, hf3⟩ := cell_of_box_a hv3
       obtain ⟨g', cap', cur', rfl, hbase', hgb', hr1, hr2, hr3, hr4⟩ : ∃ g' cap' cur', v' = .slice (some ⟨g', 0, none⟩) (ss.length + 1) cap' ∧ w0.heap.size ≤ g' ∧ w3.heap[g']? = some (.cells cur' 67 (0, 0)) ∧ ss.length + 1 ≤ cap' ∧ cap' ≤ maxLen ∧ cur'.size = cap' * 1 ∧ cur'.toList.take ((ss.length + 1) * 1) = ss ++ [x] := by
         rcases hown'.2 with ⟨_, h0⟩ | h'
         · exact absurd h0 (by omega)
         · exact h'
       go_frame)
    | (rw [Oper.semAt_eq _ _ _ (fun c h => by cases h)]; go_simp; try go_bits))
  have hg3' : (W2.alloc (.cells #[x] 67)).grownBy w3 v.ownBlock := hg3
  have hL3 : w3.heap[l]? = some (.loop { apRec Tryd.f73 fn sv Bs D .ready none with state := .busy }) := (hg3'.block l (by simp; omega) (ne_of hL2 (fun cur e => by first | cases e | exact hne (Obj.cells.inj e).2.1))).trans ((Below.heap_alloc _ _ l hl2).trans hL2)
  have hK3 : w3.heap[D]? = some (.deferred (some [])) := (hg3'.block D (by simp; omega) (ne_of hK2 (fun cur e => by first | cases e | exact hne (Obj.cells.inj e).2.1))).trans ((Below.heap_alloc _ _ D hDlt).trans hK2)
  obtain ⟨w4, hw4⟩ : ∃ w4, w3.setCell ⟨Bs, 0, none⟩ (.slice (some ⟨g', 0, none⟩) (ss.length + 1) cap') = w4 := ⟨_, rfl⟩
  rw [hw4]
  have hg4 : w3.grownBy w4 (some Bs) := by rw [← hw4]; exact grownBy_setCell0_a _ _ _
  have hv4 : w4.heap[Bs]? = some (.cells #[.slice (some ⟨g', 0, none⟩) (ss.length + 1) cap'] 62 (0, 0)) := by rw [← hw4]; exact heap_setCell_box_a _ hv3
  have hL4 : w4.heap[l]? = some (.loop { apRec Tryd.f73 fn sv Bs D .ready none with state := .busy }) := (hg4.block l (Array.getElem?_eq_some_iff.1 hL3).1 (fun e => hBl (by cases e; rfl))).trans hL3
  have hK4 : w4.heap[D]? = some (.deferred (some [])) := (hg4.block D (Array.getElem?_eq_some_iff.1 hK3).1 (fun e => hDB (by cases e; rfl))).trans hK3
  have hrow4 := hown'.kept hg4 (ownsRow_ne_a hown' hv3 (fun cur e => by first | cases e | exact hne (Obj.cells.inj e).2.1))
  have hl4 : l < w4.heap.size := (Array.getElem?_eq_some_iff.1 hL4).1
  have hb3 : Below w0.heap.size w0 w3 := (hb2.alloc hb2.size _).grown hg3' (by have := hb2.size; simp; omega) (fun k e => (hrow2.lt k e).1)
  have hb4 : Below w0.heap.size w0 w4 := hb3.grown hg4 hb3.size (fun k e => by cases e; exact h0B)
  clear hw4
  refine ⟨_, _, run_endRound none hL4, rfl, ⟨⟨_, (World.putObj_heap_other hBl).trans hv4, ?_, fun h => by simp at h⟩, World.putObj_heap_same hl4, (World.putObj_heap_other hDl).trans hK4, hb4.grown (grownBy_putObj_a _ _ _) hb4.size (fun k e => by cases e; exact h0l)⟩⟩
  have := hrow4.kept (grownBy_putObj_a w4 l (.loop { { apRec Tryd.f73 fn sv Bs D .ready none with state := .busy } with state := if (none : Option Code).isNone then .ready else .done, pending := none })) (ownsRow_ne_a hrow4 hL4 (fun cur e => by first | cases e | exact hne (Obj.cells.inj e).2.1))
  simpa using this
set_option maxRecDepth 100000 in
set_option maxHeartbeats 2000000 in
/-- slices.AppendSeq(nil, slices.Values(s)): a slice that owns what s has. -/
theorem appendSeq_in (F : Fence) (n : Nat) (h11 : F.fn 73) (hFg : F.fn 67) (hro : F.round = none) (hn : 2 ≤ n) (Bv len cap b off : Nat) (ad : Option Addr) (us : List Value) (w : World) (hus : us.length = len) (hone : ∀ u ∈ us, u.oneCell' = true) (hN : len ≤ 1000000000) (hBv : Bv < w.heap.size) (hv : w.cell? ⟨Bv, 0, none⟩ = some (.slice ad len cap))
    (had : len ≠ 0 → ad = some ⟨b, off, none⟩ ∧ b < w.heap.size ∧ ∀ j, j < len → w.cell? ⟨b, off + j, none⟩ = some (us[j]?.getD undef)) :
    CallsIn F n Tryd.prog 73 #[.slice none 0 0, .func (.func 67) #[] #[.pointer (some ⟨Bv, 0, none⟩)]] w fun e w' => ∃ v : Value, e = .returned v ∧ w'.ownsRow w.heap.size 67 1 v len us ∧ (len = 0 → v = .slice none 0 0) ∧ Below w.heap.size w w' := by
  have h1 : 1 ≤ n := by omega
  have hne : (62 : Nat) ≠ 67 := by decide
  have eg : ∀ args w, (callFunc 67 args).run Tryd.prog w = .ok (.enter 67 args) w := enters_of Tryd.func67 (by kernel_rfl) rfl
  obtain ⟨R, hR⟩ : ∃ R : Ending → World → Prop, R = fun e w' => ∃ v : Value, e = .returned v ∧ w'.ownsRow w.heap.size 67 1 v len us ∧ (len = 0 → v = .slice none 0 0) ∧ Below w.heap.size w w' := ⟨_, rfl⟩
  rw [← hR]
  refine callsIn_of_wp_marks Tryd.func73 rfl h11 ?_ hro
  simp only [Tryd.ntmps73, List.size_toArray, List.length_cons, List.length_nil, Nat.reduceAdd, Nat.reduceSub, Array.replicate_succ, Array.replicate_zero, List.push_toArray, List.append_toArray, List.nil_append, List.cons_append]
  gi_wp2
  refine wpIn_rangeFunc ?_
  intro fn hfn
  rw [hro]
  obtain ⟨sv, hsv⟩ : ∃ sv, sv = Value.func (.func 67) #[] #[.pointer (some ⟨Bv, 0, none⟩)] := ⟨_, rfl⟩
  obtain ⟨W0, hW0⟩ : ∃ W0, w.alloc (.cells #[.slice none 0 0] 62) = W0 := ⟨_, rfl⟩
  have hs0 : W0.heap.size = w.heap.size + 1 := by rw [← hW0]; simp
  have hv0 : W0.heap[w.heap.size]? = some (.cells #[.slice none 0 0] 62 (0, 0)) := by rw [← hW0]; exact World.alloc_heap_new w _
  have hb0 : Below w.heap.size w W0 := by rw [← hW0]; exact (Below.refl _ w).alloc (Nat.le_refl _) _
  rw [hW0]
  obtain ⟨W1, hW1⟩ : ∃ W1, (W0.alloc (.deferred (some []))).alloc (.loop (apRec Tryd.f73 fn sv w.heap.size W0.heap.size .ready none)) = W1 := ⟨_, rfl⟩
  have hold : ∀ k, k < W0.heap.size → W1.heap[k]? = W0.heap[k]? := fun k hk => by
    rw [← hW1]; exact (Below.heap_alloc _ _ k (by simp; omega)).trans (Below.heap_alloc _ _ k hk)
  have hb1 : Below w.heap.size w W1 := by rw [← hW1]; exact (hb0.alloc hb0.size _).alloc (by have := hb0.size; simp; omega) _
  have hs1 : W1.heap.size = W0.heap.size + 2 := by rw [← hW1]; simp
  have hM : ApAt Tryd.f73 w fn sv w.heap.size (W0.heap.size + 1) W0.heap.size [] W1 :=
    ⟨⟨_, (hold w.heap.size (by omega)).trans hv0, ⟨rfl, .inl ⟨rfl, rfl⟩⟩, fun _ => rfl⟩,
     by rw [← hW1]; have := World.alloc_heap_new (W0.alloc (.deferred (some []))) (.loop (apRec Tryd.f73 fn sv w.heap.size W0.heap.size .ready none)); rwa [World.size_alloc] at this,
     by rw [← hW1]; exact (Below.heap_alloc _ _ _ (by simp)).trans (World.alloc_heap_new W0 _), hb1⟩
  refine ⟨W0.heap.size + 1, [{ target := .collected W0.heap.size, args := #[] }], W1, { target := .fn (.func 67) #[.pointer (some ⟨Bv, 0, none⟩)], args := #[.func (.yield (W0.heap.size + 1)) #[] #[]] }, W1, 67,
    #[.func (.yield (W0.heap.size + 1)) #[] #[]] ++ #[.pointer (some ⟨Bv, 0, none⟩)], W1, ?_, ?_, ?_, ?_, fun _ => h1, ?_⟩
  · rw [← hW1, hsv]; exact run_enterLoop_outer _ _ _ _ _
  · simp [resolve, go_sem]
  · intro f' hf'; simp [Target.leads] at hf'; subst hf'; exact hFg
  · simp [invoke, go_sem, eg]
  · have hcall : CallsIn F (n - 1) Tryd.prog 67 #[.func (.yield (W0.heap.size + 1)) #[] #[], .pointer (some ⟨Bv, 0, none⟩)] W1 fun e W' => (∃ v, e = .returned v) ∧ ApAt Tryd.f73 w fn sv w.heap.size (W0.heap.size + 1) W0.heap.size us W' := by
      have hBs : W1.cell? ⟨Bv, 0, none⟩ = some (.slice ad len cap) := (hb1.cell (p := ⟨Bv, 0, none⟩) hBv).trans hv
      by_cases hl0 : len = 0
      · subst hl0
        obtain rfl : us = [] := List.eq_nil_of_length_eq_zero hus
        exact values1_nil_in F (n - 1) hFg hro _ _ _ _ _ W1 hBs hM
      · obtain ⟨rfl, hbl, hc⟩ := had hl0
        exact values1_in F (n - 1) hFg hro (by omega) _ _ w.heap.size b off len cap us hus (by omega) hbl w _ (fun pre W h => h.below)
          (fun pre x W hJ hl hx => apYield F (n - 1 - 1) w fn hfn _ w.heap.size (W0.heap.size + 1) W0.heap.size (by omega) (by omega) (by omega) (Nat.le_refl _) (by omega) len (by unfold maxLen; omega) (by omega) pre x (hone x hx) W hJ hl) W1 hBs hc hM
    refine hcall.mono ?_
    rintro e W2 ⟨⟨v0, rfl⟩, h2⟩
    obtain ⟨v, hv, hrow, hnil⟩ := h2.box
    have hend := run_endLoop (P := Tryd.prog) h2.L (by simp [apRec])
    obtain ⟨W3, hW3⟩ : ∃ W3, W2.putObj (W0.heap.size + 1) (.loop { apRec Tryd.f73 fn sv w.heap.size W0.heap.size .ready none with state := .exhausted }) = W3 := ⟨_, rfl⟩
    rw [hW3] at hend
    have hg3 : W2.grownBy W3 (some (W0.heap.size + 1)) := by rw [← hW3]; exact grownBy_putObj_a _ _ _
    have hv3 : W3.heap[w.heap.size]? = some (.cells #[v] 62 (0, 0)) := by rw [← hW3]; exact (World.putObj_heap_other (by omega)).trans hv
    have hK3 : W3.heap[W0.heap.size]? = some (.deferred (some [])) := by rw [← hW3]; exact (World.putObj_heap_other (by omega)).trans h2.K
    have hrow3 := hrow.kept hg3 (ownsRow_ne_a hrow h2.L (fun cur e => by first | cases e | exact hne (Obj.cells.inj e).2.1))
    have hb3 : Below w.heap.size w W3 := h2.below.grown hg3 h2.below.size (fun k e => by cases e; omega)
    obtain ⟨hc3, hf3⟩ := cell_of_box_a hv3
    clear hW3
    refine ⟨none, W3, hend, ?_⟩
    gi_wp2
    rw [← hs0]
    refine ⟨by simp, .inl ⟨_, _, rfl, run_takeDeferred hK3, ?_⟩⟩
    rw [hus] at hrow3
    exact ⟨_, results_tmp rfl _ _ _, by rw [hR]; exact ⟨v, rfl, hrow3.kept (grownBy_putObj_a _ _ _) (ownsRow_ne_a hrow3 hK3 (fun cur e => by first | cases e | exact hne (Obj.cells.inj e).2.1)), fun h => hnil (List.eq_nil_of_length_eq_zero (by omega)), hb3.grown (grownBy_putObj_a _ _ _) hb3.size (fun k e => by cases e; omega)⟩⟩
set_option maxRecDepth 100000 in
set_option maxHeartbeats 1000000 in
/-- slices.Collect(slices.Values(s)). -/
theorem collect_in (F : Fence) (n : Nat) (h8 : F.fn 65) (h11 : F.fn 73) (hFg : F.fn 67) (hro : F.round = none) (hn : 3 ≤ n) (Bv len cap b off : Nat) (ad : Option Addr) (us : List Value) (w : World) (hus : us.length = len) (hone : ∀ u ∈ us, u.oneCell' = true) (hN : len ≤ 1000000000) (hBv : Bv < w.heap.size) (hv : w.cell? ⟨Bv, 0, none⟩ = some (.slice ad len cap))
    (had : len ≠ 0 → ad = some ⟨b, off, none⟩ ∧ b < w.heap.size ∧ ∀ j, j < len → w.cell? ⟨b, off + j, none⟩ = some (us[j]?.getD undef)) :
    CallsIn F n Tryd.prog 65 #[.func (.func 67) #[] #[.pointer (some ⟨Bv, 0, none⟩)]] w fun e w' => ∃ v : Value, e = .returned v ∧ w'.ownsRow w.heap.size 67 1 v len us ∧ (len = 0 → v = .slice none 0 0) ∧ Below w.heap.size w w' := by
  have h1 : 1 ≤ n := by omega
  have cA := appendSeq_in F (n - 1) h11 hFg hro (by omega) Bv len cap b off ad us w hus hone hN hBv hv had
  refine callsIn_of_wp Tryd.func65 rfl h8 ?_ hro
  simp only [Tryd.ntmps65, List.size_toArray, List.length_cons, List.length_nil, Nat.reduceAdd, Nat.reduceSub, Array.replicate_succ, Array.replicate_zero, List.push_toArray, List.append_toArray, List.nil_append, List.cons_append]
  gi_wp2_with (gi_at_call 73; refine cA.mono ?_; rintro e w' ⟨v, rfl, hrow, hnil, hb⟩)
  go_ret
  exact ⟨v, rfl, hrow, hnil, hb⟩
/-- A slice of the call's own, wherever it lies. -/
theorem arr_new {S : Stay} {gh : List Value} {sto : Sto} {w w' : World} {lo g s n cap : Nat} {cur : Array Value} {e : TypeId} {cs : List V} (hlo : lo ≤ sto.length) (hs : SR S gh w sto) (hb : Below w.heap.size w w') (hg0 : w.heap.size ≤ g) (hg : w'.heap[g]? = some (.cells cur e (0, 0))) (hn : n ≤ cap) (hc : cap ≤ maxLen) (hsz : cur.size = cap * s) (hl : cs.length = n * s)
    (hr : ∀ (j : Nat) (u : Value) (c : V), cur.toList[j]? = some u → cs[j]? = some c → u.oneCell' = true ∧ RepV S w u c) : ∃ gh', RepD S gh' (sto ++ [.arr (some (e, s)) true n cs]) w' (.slice (some ⟨g, 0, none⟩) n cap) (.arr sto.length n) ∧ SR S gh' w' (sto ++ [.arr (some (e, s)) true n cs]) ∧ Fr sto.length lo S gh w sto S gh' w' (sto ++ [.arr (some (e, s)) true n cs]) := by
  have hnew : ∀ b, blk (.slice (some ⟨g, 0, none⟩) n cap) = some b → w.heap.size ≤ b := by
    intro b hb
    simp only [blk, Option.some.injEq] at hb
    omega
  have hf : Fr sto.length lo S gh w sto S (gh ++ [.slice (some ⟨g, 0, none⟩) n cap]) w' (sto ++ [.arr (some (e, s)) true n cs]) := push_fr hs hlo hb (fun _ _ h => h) hnew
  refine ⟨_, ⟨by simp, ⟨_, _, rfl⟩, fun es' wr' m cs' h => ?_⟩, push_sr hs hf hb (fun b o h => .inl h) hnew ⟨g, cap, cur, rfl, hg, hn, hc, hsz, hl, fun j u c hu hcj => ⟨(hr j u c hu hcj).1, RepV.mono hf.stable (hr j u c hu hcj).2⟩, ?_⟩, hf⟩
  · simp only [List.getElem?_append_right (Nat.le_refl _), Nat.sub_self, List.getElem?_cons_zero, Option.some.injEq, Ent.arr.injEq] at h
    obtain ⟨_, _, rfl, _⟩ := h
    refine ⟨Nat.le_refl _, fun _ => ?_⟩
    rw [← hs.len]
    simp
  · simp only [if_true]
    intro o ho
    have := hs.stay _ _ ho; omega
theorem arr_new0 {S : Stay} {gh : List Value} {sto : Sto} {w w' : World} {lo : Nat} (hlo : lo ≤ sto.length) (hs : SR S gh w sto) (hb : Below w.heap.size w w') : ∃ gh', RepD S gh' (sto ++ [.arr none true 0 []]) w' (.slice none 0 0) (.arr sto.length 0) ∧ SR S gh' w' (sto ++ [.arr none true 0 []]) ∧ Fr sto.length lo S gh w sto S gh' w' (sto ++ [.arr none true 0 []]) := by
  have hnew : ∀ b, blk (.slice none 0 0) = some b → w.heap.size ≤ b := by
    intro b hb
    simp [blk] at hb
  have hf : Fr sto.length lo S gh w sto S (gh ++ [.slice none 0 0]) w' (sto ++ [.arr none true 0 []]) := push_fr hs hlo hb (fun _ _ h => h) hnew
  refine ⟨_, ⟨by simp, ⟨_, _, rfl⟩, fun es' wr' m cs' h => ?_⟩, push_sr hs hf hb (fun b o h => .inl h) hnew ⟨rfl, rfl, rfl⟩, hf⟩
  simp only [List.getElem?_append_right (Nat.le_refl _), Nat.sub_self, List.getElem?_cons_zero, Option.some.injEq, Ent.arr.injEq] at h
  obtain ⟨_, _, rfl, _⟩ := h
  refine ⟨Nat.le_refl _, fun _ => ?_⟩
  rw [← hs.len]
  simp
/-- What is shown of slices.Collect(slices.Values(s)). -/
def collB : CallP := fun f args sto _ r sto' => f = 65 ∧ ∃ (id n : Nat) (cs : List V), args = [.clo 67 [id]] ∧ sto[id]? = some (.cells [.v (.sl n cs)]) ∧ cs.length = n ∧ n ≤ 1000000000 ∧ r = .arr sto.length n ∧ sto' = sto ++ [.arr (if n = 0 then none else some (67, 1)) true n cs]
theorem collB_ok : ∀ f args sto lo r sto', collB f args sto lo r sto' → CallOK Tryd.prog f args sto lo r sto' := by
  rintro f args sto lo r sto' ⟨rfl, id, n, cs, rfl, hid, hcs, hn, rfl, rfl⟩
  refine ⟨by kernel_rfl, fun S gh w vals hlo hs hgl hv => ?_⟩
  obtain ⟨v0, rfl⟩ : ∃ v0, vals = [v0] := by
    have := hv.1
    match vals, this with
    | [v], _ => exact ⟨v, rfl⟩
  obtain ⟨vs, rfl, hvl, hvc⟩ : RepC S gh sto w v0 (.clo 67 [id]) := hv.2 0 v0 _ rfl rfl
  obtain ⟨_, g, hg, hv0⟩ := hvc 0 id rfl
  obtain rfl : vs = [.pointer (some ⟨g, 0, none⟩)] := by
    match vs, hvl with
    | [v], _ => simp only [List.getElem?_cons_zero, Option.some.injEq] at hv0; rw [hv0]
  obtain ⟨gv, hgv, hE⟩ := hs.ent id _ hid
  rw [hg] at hgv
  cases hgv
  obtain ⟨g', cur, ty, h0, hh, h1, h2, h3⟩ := hE
  cases h0
  obtain ⟨u, hu⟩ : ∃ u, cur.toList[0]? = some u := ⟨_, List.getElem?_eq_getElem (by rw [h1]; simp)⟩
  have hr : RepV S w u (.sl n cs) := (h3 0 u _ hu rfl).2
  obtain ⟨ad, cap, rfl, q1, q2, q3, q4⟩ := RepV.sl_inv hr
  have hcell : w.cell? ⟨g, 0, none⟩ = some (.slice ad n cap) := by rw [cell_heap hh]; exact hu
  have hgl : g < w.heap.size := (Array.getElem?_eq_some_iff.1 hh).1
  by_cases hn0 : n = 0
  · subst hn0
    obtain rfl : cs = [] := List.eq_nil_of_length_eq_zero hcs
    refine ((callsIn_wide (n := 6)).1 (collect_in Fence.wide 6 trivial trivial trivial rfl (by omega) g 0 cap 0 0 ad [] w rfl (by simp) hn hgl hcell (fun h => absurd rfl h))).mono ?_
    rintro e w' ⟨v, rfl, hrow, hnil, hb⟩
    obtain rfl := hnil rfl
    obtain ⟨gh', a1, a2, a3⟩ := arr_new0 hlo hs hb
    exact ⟨_, S, gh', rfl, a1, a2, a3, by simp⟩
  · have hne : cs ≠ [] := by intro e; rw [e] at hcs; exact hn0 hcs.symm
    obtain ⟨b, off, us, rfl, h5, h6⟩ := q4 hne
    have hget : ∀ j, j < n → ((List.range n).map us)[j]? = some (us j) := fun j hj => by
      rw [List.getElem?_map, List.getElem?_range hj]; rfl
    refine ((callsIn_wide (n := 6)).1 (collect_in Fence.wide 6 trivial trivial trivial rfl (by omega) g n cap b off _ ((List.range n).map us) w (by simp) (fun u hu => ?_) hn hgl hcell (fun _ => ⟨rfl, hs.stay b (off + 0) (h5 0 (by omega)).1, fun j hj => by rw [hget j hj]; exact (h5 j (by omega)).2.2⟩))).mono ?_
    · obtain ⟨j, hj, rfl⟩ := List.mem_map.1 hu
      exact (h5 j (by rw [hcs]; simpa using hj)).2.1
    · rintro e w' ⟨v, rfl, hrow, _, hb⟩
      rcases hrow.2 with ⟨_, h0⟩ | ⟨gb, cp, cr, rfl, hbase, hgb, r1, r2, r3, r4⟩
      · exact absurd h0 hn0
      · obtain ⟨gh', a1, a2, a3⟩ := arr_new (e := 67) (s := 1) (cs := cs) hlo hs hb hbase hgb r1 r2 r3 (by omega) (fun j u c hu hc => by
          have hj := (List.getElem?_eq_some_iff.1 hc).1
          have : u = us j := by
            have e1 : (cr.toList.take (n * 1))[j]? = some u := by rw [List.getElem?_take_of_lt (by omega)]; exact hu
            rw [r4, hget j (by omega)] at e1
            exact (Option.some.inj e1).symm
          subst this
          exact ⟨(h5 j hj).2.1, h6 j c hc⟩)
        rw [if_neg hn0]
        exact ⟨_, S, gh', rfl, a1, a2, a3, by simp⟩
end Go.Proofs.YtgkhcjdpdgfdbaaDoor
namespace Go.Proofs.YtgkhcjdpdgfdbaaDoor
open Go Go.RowKit

attribute [local irreducible] EvOps EvC
attribute [local go_sem] List.set_set getS List.getElem_set_self List.length_set List.getElem?_toArray
set_option linter.unusedSimpArgs false
set_option linter.unusedVariables false
set_option maxRecDepth 100000
set_option maxHeartbeats 2000000
theorem len64_ev (n : Nat) (hn : n < 13) (sto : Sto) (lo : Nat) (hlo : lo ≤ sto.length) : ∃ r, CallEv Tryd.prog tab B0 87 [.v (VU n)] sto lo (.v (VI r)) sto := by
  have : n = 0 ∨ n = 1 ∨ n = 2 ∨ n = 3 ∨ n = 4 ∨ n = 5 ∨ n = 6 ∨ n = 7 ∨ n = 8 ∨ n = 9 ∨ n = 10 ∨ n = 11 ∨ n = 12 := by omega
  rcases this with rfl | rfl | rfl | rfl | rfl | rfl | rfl | rfl | rfl | rfl | rfl | rfl | rfl
  all_goals
    apply Exists.intro
    refine CallEv.intro ⟨_, _, [], Tryd.func87, rfl, by decide, ?_⟩; simp only [go_sem, Tryd.ntmps87]
    repeat' (first | (refine go ⟨?_⟩) | (fail) | ((first | (refine bsp ?_ ?_) | (refine csp ?_ ?_)); all_goals (intro hb; (fail_if_success (cases hb; done)); (try simp only [decide_eq_true_eq, decide_eq_false_iff_not, beq_iff_eq, bne_iff_ne, ne_eq, beq_eq_false_iff_ne, bne_eq_false_iff_eq, Bool.not_eq_true', Bool.not_eq_false', Bool.and_eq_true, Bool.or_eq_true, Decidable.not_not] at hb); (try simp only [go_sem]))))
    refine ⟨by first | exact .inr rfl | exact .inl rfl, .inl ⟨[], _, (by dsimp only [Tryd.f87]; exact sv), ?_, by simp⟩⟩
    rfl
theorem len_ev (n : Nat) (hn : n < 13) (sto : Sto) (lo : Nat) (hlo : lo ≤ sto.length) : ∃ r, CallEv Tryd.prog tab B0 75 [.v (VU n)] sto lo (.v (VI r)) sto := by
  obtain ⟨r, hr⟩ := len64_ev n hn sto lo hlo
  refine ⟨r, ?_⟩
  refine CallEv.intro ⟨_, _, [], Tryd.func75, rfl, by decide, ?_⟩; simp only [go_sem, Tryd.ntmps75]
  repeat' (first | (refine go ⟨?_⟩) | (((refine call ?_); (refine ⟨_, hr, ?_⟩); (try simp only [go_sem]))) | ((first | (refine bsp ?_ ?_) | (refine csp ?_ ?_)); all_goals (intro hb; (fail_if_success (cases hb; done)); (try simp only [decide_eq_true_eq, decide_eq_false_iff_not, beq_iff_eq, bne_iff_ne, ne_eq, beq_eq_false_iff_ne, bne_eq_false_iff_eq, Bool.not_eq_true', Bool.not_eq_false', Bool.and_eq_true, Bool.or_eq_true, Decidable.not_not] at hb); (try simp only [go_sem]))))
  refine ⟨by first | exact .inr rfl | exact .inl rfl, .inl ⟨[], _, (by dsimp only [Tryd.f75]; exact sv), ?_, by simp⟩⟩
  rfl
theorem pdqU_ev (xs : List Nat) (l : Int) (id : Nat) (hx : xs.length < 13) (sto : Sto) (lo : Nat) (hlo : lo ≤ sto.length) (hl : lo ≤ id) (hid : id < sto.length) : CallEv Tryd.prog tab B0 74 [.arr id xs.length, .v (VI 0), .v (VI xs.length), .v (VI l)] (sto.set id (.arr (some (67, 1)) true xs.length (xs.map VU))) lo (.v (.tup [])) (sto.set id (.arr (some (67, 1)) true xs.length ((sortN xs).map VU))) := by
  have hi := insertionU_ev xs _ id (by omega) rfl (sto.set id (.arr (some (67, 1)) true xs.length (xs.map VU))) lo (by simpa using hlo) hl (by simpa using hid) (by simp)
  rw [List.set_set] at hi
  refine CallEv.intro ⟨_, _, [], Tryd.func74, rfl, by decide, ?_⟩; simp only [go_sem, Tryd.ntmps74]
  (try refine go ⟨?_⟩)
  refine c_loop (fun m s => m = 0 ∧ (s.env.length = 134 ∧ s.sto = sto.set id (.arr (some (67, 1)) true xs.length (xs.map VU)) ∧ s.env[0]? = some (.arr id xs.length) ∧ s.env[1]? = some (.v (VI 0)) ∧ s.env[2]? = some (.v (VI xs.length)) ∧ s.env[3]? = some (.v (VI l)) ∧ s.env[8]? = some (.v (.bool true)) ∧ s.env[9]? = some (.v (.bool true)))) (.refl _) ⟨rfl, rfl, rfl, ?_, ?_, ?_, ?_, ?_, ?_⟩ ?_
  all_goals first | rfl | skip
  rintro m s ⟨rfl, hL, hT, k0, k1, k2, k3, k8, k9⟩
  obtain ⟨env, st0⟩ := s; obtain ⟨J, hJ⟩ := listJ hL; rw [show (List.range 134).map J = J 0 :: J 1 :: J 2 :: J 3 :: J 4 :: J 5 :: J 6 :: J 7 :: J 8 :: J 9 :: J 10 :: J 11 :: J 12 :: J 13 :: J 14 :: J 15 :: J 16 :: J 17 :: J 18 :: J 19 :: J 20 :: J 21 :: J 22 :: J 23 :: J 24 :: J 25 :: J 26 :: J 27 :: J 28 :: J 29 :: J 30 :: J 31 :: J 32 :: J 33 :: J 34 :: J 35 :: J 36 :: J 37 :: J 38 :: J 39 :: J 40 :: J 41 :: J 42 :: J 43 :: J 44 :: J 45 :: J 46 :: J 47 :: J 48 :: J 49 :: J 50 :: J 51 :: J 52 :: J 53 :: J 54 :: J 55 :: J 56 :: J 57 :: J 58 :: J 59 :: J 60 :: J 61 :: J 62 :: J 63 :: J 64 :: J 65 :: J 66 :: J 67 :: J 68 :: J 69 :: J 70 :: J 71 :: J 72 :: J 73 :: J 74 :: J 75 :: J 76 :: J 77 :: J 78 :: J 79 :: J 80 :: J 81 :: J 82 :: J 83 :: J 84 :: J 85 :: J 86 :: J 87 :: J 88 :: J 89 :: J 90 :: J 91 :: J 92 :: J 93 :: J 94 :: J 95 :: J 96 :: J 97 :: J 98 :: J 99 :: J 100 :: J 101 :: J 102 :: J 103 :: J 104 :: J 105 :: J 106 :: J 107 :: J 108 :: J 109 :: J 110 :: J 111 :: J 112 :: J 113 :: J 114 :: J 115 :: J 116 :: J 117 :: J 118 :: J 119 :: J 120 :: J 121 :: J 122 :: J 123 :: J 124 :: J 125 :: J 126 :: J 127 :: J 128 :: J 129 :: J 130 :: J 131 :: J 132 :: J 133 :: [] from by kernel_rfl] at hJ; replace k0 := Option.some.inj ((congrArg (·[0]?) hJ).symm.trans k0); replace k1 := Option.some.inj ((congrArg (·[1]?) hJ).symm.trans k1); replace k2 := Option.some.inj ((congrArg (·[2]?) hJ).symm.trans k2); replace k3 := Option.some.inj ((congrArg (·[3]?) hJ).symm.trans k3); replace k8 := Option.some.inj ((congrArg (·[8]?) hJ).symm.trans k8); replace k9 := Option.some.inj ((congrArg (·[9]?) hJ).symm.trans k9); rw [k0, k1, k2, k3, k8, k9] at hJ; dsimp only at hJ hT; subst hJ; replace hT := hT.symm; subst hT; clear hL k0 k1 k2 k3 k8 k9
  repeat' (first | (refine go ⟨?_⟩) | (((with_reducible apply ops_callW); rfl; (simp (disch := (first | omega | assumption | ((repeat' with_reducible apply And.intro) <;> first | omega | assumption | rfl | (apply Or.inl; rfl) | (apply Or.inr; first | rfl | trivial | fail) | fail) | fail)) only [go_sem, if_pos, if_neg, wrapI, wrapU, decide_eq_true, decide_eq_false, beqT, beqF, bneT, bneF] <;> rfl); (exact hi); (first | exact ho_arr | exact ho_arr2 | exact ho_map | exact ho_app (by first | omega | (simp; done) | (simp; omega)) | exact ho_app2 (by first | omega | (simp; done) | (simp; omega))); (try simp only [go_sem]))) | ((first | (refine bsp ?_ ?_) | (refine csp ?_ ?_)); all_goals (intro hb; (fail_if_success (cases hb; done)); (try simp only [decide_eq_true_eq, decide_eq_false_iff_not, beq_iff_eq, bne_iff_ne, ne_eq, beq_eq_false_iff_ne, bne_eq_false_iff_eq, Bool.not_eq_true', Bool.not_eq_false', Bool.and_eq_true, Bool.or_eq_true, Decidable.not_not] at hb); (try simp only [go_sem]))))

  refine ⟨by first | exact .inr rfl | exact .inl rfl, .inl ⟨[], _, (by dsimp only [Tryd.f74]; exact sv), ?_, ?_⟩⟩
  · rfl
  · (rw [List.take_of_length_le (by simp)])
theorem sortU_ev (xs : List Nat) (id : Nat) (hx : xs.length < 13) (sto : Sto) (lo : Nat) (hlo : lo ≤ sto.length) (hl : lo ≤ id) (hid : id < sto.length) : CallEv Tryd.prog tab B0 66 [.arr id xs.length] (sto.set id (.arr (some (67, 1)) true xs.length (xs.map VU))) lo (.v (.tup [])) (sto.set id (.arr (some (67, 1)) true xs.length ((sortN xs).map VU))) := by
  obtain ⟨r, hr⟩ := len_ev xs.length hx (sto.set id (.arr (some (67, 1)) true xs.length (xs.map VU))) lo (by simpa using hlo)
  have hi := pdqU_ev xs r id hx sto lo hlo hl hid
  refine CallEv.intro ⟨_, _, [], Tryd.func66, rfl, by decide, ?_⟩; simp only [go_sem, Tryd.ntmps66]
  repeat' (first | (refine go ⟨?_⟩) | (first | ((refine call ?_); (refine ⟨_, hr, ?_⟩); (try simp only [go_sem])) | ((with_reducible apply ops_callW); rfl; (simp (disch := (first | omega | assumption | ((repeat' with_reducible apply And.intro) <;> first | omega | assumption | rfl | (apply Or.inl; rfl) | (apply Or.inr; first | rfl | trivial | fail) | fail) | fail)) only [go_sem, if_pos, if_neg, wrapI, wrapU, decide_eq_true, decide_eq_false, beqT, beqF, bneT, bneF] <;> rfl); (exact hi); (first | exact ho_arr | exact ho_arr2 | exact ho_map | exact ho_app (by first | omega | (simp; done) | (simp; omega)) | exact ho_app2 (by first | omega | (simp; done) | (simp; omega))); (try simp only [go_sem]))) | ((first | (refine bsp ?_ ?_) | (refine csp ?_ ?_)); all_goals (intro hb; (fail_if_success (cases hb; done)); (try simp only [decide_eq_true_eq, decide_eq_false_iff_not, beq_iff_eq, bne_iff_ne, ne_eq, beq_eq_false_iff_ne, bne_eq_false_iff_eq, Bool.not_eq_true', Bool.not_eq_false', Bool.and_eq_true, Bool.or_eq_true, Decidable.not_not] at hb); (try simp only [go_sem]))))

  refine ⟨by first | exact .inr rfl | exact .inl rfl, .inl ⟨[], _, (by dsimp only [Tryd.f66]; exact sv), ?_, ?_⟩⟩
  · rfl
  · (rw [List.take_of_length_le (by simp)])
end Go.Proofs.YtgkhcjdpdgfdbaaDoor
namespace Go.Proofs.YtgkhcjdpdgfdbaaDoor
def dedupA : List Nat → List Nat
  | [] => []
  | [a] => [a]
  | a :: b :: l => if a = b then dedupA (b :: l) else a :: dedupA (b :: l)
theorem dedupA_snoc (b : Nat) : ∀ l : List Nat, dedupA (l ++ [b]) = if l.getLast? = some b then dedupA l else dedupA l ++ [b]
  | [] => by simp [dedupA]
  | [a] => by
    by_cases h : a = b <;> simp [dedupA, h]
  | a :: c :: l => by
    have ih := dedupA_snoc b (c :: l)
    simp only [List.cons_append] at ih ⊢
    rw [dedupA, dedupA, ih]
    have e : (a :: c :: l).getLast? = (c :: l).getLast? := by simp [List.getLast?_cons_cons]
    rw [e]
    by_cases h : a = c
    · simp [h]
    · simp only [h, if_false]
      split <;> simp
theorem dedupA_mem : ∀ (l : List Nat) (r : Nat), r ∈ dedupA l ↔ r ∈ l
  | [], r => by simp [dedupA]
  | [a], r => by simp [dedupA]
  | a :: b :: l, r => by
    have ih := dedupA_mem (b :: l) r
    unfold dedupA
    split
    · rename_i h
      subst h
      rw [ih]; simp
    · simp only [List.mem_cons] at ih ⊢
      rw [ih]
theorem dedupA_id : ∀ (l : List Nat), (∀ i (h : i + 1 < l.length), l[i + 1] ≠ l[i]) → dedupA l = l
  | [], _ => rfl
  | [a], _ => rfl
  | a :: b :: l, h => by
    have h0 := h 0 (by simp)
    simp only [List.getElem_cons_succ, List.getElem_cons_zero] at h0
    unfold dedupA
    rw [if_neg (fun e => h0 e.symm), dedupA_id (b :: l) fun i hi => by
      have := h (i + 1) (by simpa using hi)
      simpa using this]
theorem dedupA_length : ∀ (l : List Nat), (dedupA l).length ≤ l.length
  | [] => by simp [dedupA]
  | [a] => by simp [dedupA]
  | a :: b :: l => by
    have := dedupA_length (b :: l)
    unfold dedupA
    split
    · simp only [List.length_cons] at this ⊢; omega
    · simp only [List.length_cons] at this ⊢; omega
/-- Element by element. -/
theorem dedupA_take {l : List Nat} {i : Nat} (hi : i + 1 < l.length) : dedupA (l.take (i + 2)) = if l[i] = l[i + 1] then dedupA (l.take (i + 1)) else dedupA (l.take (i + 1)) ++ [l[i + 1]] := by
  rw [List.take_succ_eq_append_getElem hi, dedupA_snoc]
  have : (l.take (i + 1)).getLast? = some l[i] := by
    rw [List.take_succ_eq_append_getElem (by omega), List.getLast?_append]; rfl
  rw [this]
  simp
end Go.Proofs.YtgkhcjdpdgfdbaaDoor
namespace Go.Proofs.YtgkhcjdpdgfdbaaDoor
open Go Go.RowKit

attribute [local irreducible] EvOps EvC
theorem lcgo {p q : Prop} (k : Later q) (h : Later q → p := by (intro k; (first | with_reducible (first | refine c_seq ?_ | refine c_block ?_ | refine c_region ?_ | refine c_skip ?_ | refine c_exit ?_ | refine c_ret ?_ | refine then_normal ?_ | refine then_exit ?_ | refine then_ret ?_ | refine block_normal ?_ | refine block_here ?_ | refine block_ret ?_ | refine block_far (by decide) ?_ | refine ops_nil ?_ | refine c_cond_t rfl ?_ | refine c_cond_f rfl ?_) | ((with_reducible apply ops_pure); rfl; (simp (disch := (first | omega | assumption | (simp only [List.length_set, List.length_map]; omega) | ((repeat' with_reducible apply And.intro) <;> first | omega | assumption | rfl | (simp only [List.length_set, List.length_map]; omega) | (apply Or.inl; rfl) | (apply Or.inr; first | rfl | trivial | fail) | fail) | fail)) only [go_sem, if_pos, if_neg, wrapI, wrapU, decide_eq_true, decide_eq_false, beqT, beqF, bneT, bneF] <;> rfl); simp only [go_sem]) | ((with_reducible apply ops_pureF); rfl; (intro _; simp (disch := (first | omega | assumption | (simp only [List.length_set, List.length_map]; omega) | ((repeat' with_reducible apply And.intro) <;> first | omega | assumption | rfl | (simp only [List.length_set, List.length_map]; omega) | (apply Or.inl; rfl) | (apply Or.inr; first | rfl | trivial | fail) | fail) | fail)) only [go_sem, if_pos, if_neg, wrapI, wrapU, decide_eq_true, decide_eq_false, beqT, beqF, bneT, bneF] <;> rfl); simp only [go_sem]) | ((with_reducible apply ops_pureD); kernel_rfl; rfl; (simp (disch := (first | omega | assumption | (simp only [List.length_set, List.length_map]; omega) | ((repeat' with_reducible apply And.intro) <;> first | omega | assumption | rfl | (simp only [List.length_set, List.length_map]; omega) | (apply Or.inl; rfl) | (apply Or.inr; first | rfl | trivial | fail) | fail) | fail)) only [go_sem, if_pos, if_neg, wrapI, wrapU, decide_eq_true, decide_eq_false, beqT, beqF, bneT, bneF] <;> rfl); simp only [go_sem]) | ((with_reducible apply ops_skip); rfl; simp only [go_sem]) | ((with_reducible apply c_regionD); kernel_rfl) | ((with_reducible apply ops_eff); decide; rfl; (simp (disch := (first | omega | assumption | (simp only [List.length_set, List.length_map]; omega) | ((repeat' with_reducible apply And.intro) <;> first | omega | assumption | rfl | (simp only [List.length_set, List.length_map]; omega) | (apply Or.inl; rfl) | (apply Or.inr; first | rfl | trivial | fail) | fail) | fail)) only [go_sem, if_pos, if_neg, wrapI, wrapU, decide_eq_true, decide_eq_false, beqT, beqF, bneT, bneF] <;> rfl); simp only [go_sem])); (repeat (first | with_reducible (first | refine c_seq ?_ | refine c_block ?_ | refine c_region ?_ | refine c_skip ?_ | refine c_exit ?_ | refine c_ret ?_ | refine then_normal ?_ | refine then_exit ?_ | refine then_ret ?_ | refine block_normal ?_ | refine block_here ?_ | refine block_ret ?_ | refine block_far (by decide) ?_ | refine ops_nil ?_ | refine c_cond_t rfl ?_ | refine c_cond_f rfl ?_) | ((with_reducible apply ops_pure); rfl; (simp (disch := (first | omega | assumption | (simp only [List.length_set, List.length_map]; omega) | ((repeat' with_reducible apply And.intro) <;> first | omega | assumption | rfl | (simp only [List.length_set, List.length_map]; omega) | (apply Or.inl; rfl) | (apply Or.inr; first | rfl | trivial | fail) | fail) | fail)) only [go_sem, if_pos, if_neg, wrapI, wrapU, decide_eq_true, decide_eq_false, beqT, beqF, bneT, bneF] <;> rfl); simp only [go_sem]) | ((with_reducible apply ops_pureF); rfl; (intro _; simp (disch := (first | omega | assumption | (simp only [List.length_set, List.length_map]; omega) | ((repeat' with_reducible apply And.intro) <;> first | omega | assumption | rfl | (simp only [List.length_set, List.length_map]; omega) | (apply Or.inl; rfl) | (apply Or.inr; first | rfl | trivial | fail) | fail) | fail)) only [go_sem, if_pos, if_neg, wrapI, wrapU, decide_eq_true, decide_eq_false, beqT, beqF, bneT, bneF] <;> rfl); simp only [go_sem]) | ((with_reducible apply ops_pureD); kernel_rfl; rfl; (simp (disch := (first | omega | assumption | (simp only [List.length_set, List.length_map]; omega) | ((repeat' with_reducible apply And.intro) <;> first | omega | assumption | rfl | (simp only [List.length_set, List.length_map]; omega) | (apply Or.inl; rfl) | (apply Or.inr; first | rfl | trivial | fail) | fail) | fail)) only [go_sem, if_pos, if_neg, wrapI, wrapU, decide_eq_true, decide_eq_false, beqT, beqF, bneT, bneF] <;> rfl); simp only [go_sem]) | ((with_reducible apply ops_skip); rfl; simp only [go_sem]) | ((with_reducible apply c_regionD); kernel_rfl) | ((with_reducible apply ops_eff); decide; rfl; (simp (disch := (first | omega | assumption | (simp only [List.length_set, List.length_map]; omega) | ((repeat' with_reducible apply And.intro) <;> first | omega | assumption | rfl | (simp only [List.length_set, List.length_map]; omega) | (apply Or.inl; rfl) | (apply Or.inr; first | rfl | trivial | fail) | fail) | fail)) only [go_sem, if_pos, if_neg, wrapI, wrapU, decide_eq_true, decide_eq_false, beqT, beqF, bneT, bneF] <;> rfl); simp only [go_sem]))); exact k.get)) : p := h k
theorem lcgoX {p q : Prop} (k : Later q) (h : Later q → p := by (intro k; (first | with_reducible (first | refine c_seq ?_ | refine c_block ?_ | refine c_skip ?_ | refine c_exit ?_ | refine c_ret ?_ | refine then_normal ?_ | refine then_exit ?_ | refine then_ret ?_ | refine block_normal ?_ | refine block_here ?_ | refine block_ret ?_ | refine block_far (by decide) ?_ | refine ops_nil ?_ | refine c_cond_t rfl ?_ | refine c_cond_f rfl ?_) | ((with_reducible apply ops_pure); rfl; (simp (disch := (first | omega | assumption | (simp only [List.length_set, List.length_map]; omega) | ((repeat' with_reducible apply And.intro) <;> first | omega | assumption | rfl | (simp only [List.length_set, List.length_map]; omega) | (apply Or.inl; rfl) | (apply Or.inr; first | rfl | trivial | fail) | fail) | fail)) only [go_sem, if_pos, if_neg, wrapI, wrapU, decide_eq_true, decide_eq_false, beqT, beqF, bneT, bneF] <;> rfl); simp only [go_sem]) | ((with_reducible apply ops_pureF); rfl; (intro _; simp (disch := (first | omega | assumption | (simp only [List.length_set, List.length_map]; omega) | ((repeat' with_reducible apply And.intro) <;> first | omega | assumption | rfl | (simp only [List.length_set, List.length_map]; omega) | (apply Or.inl; rfl) | (apply Or.inr; first | rfl | trivial | fail) | fail) | fail)) only [go_sem, if_pos, if_neg, wrapI, wrapU, decide_eq_true, decide_eq_false, beqT, beqF, bneT, bneF] <;> rfl); simp only [go_sem]) | ((with_reducible apply ops_pureD); kernel_rfl; rfl; (simp (disch := (first | omega | assumption | (simp only [List.length_set, List.length_map]; omega) | ((repeat' with_reducible apply And.intro) <;> first | omega | assumption | rfl | (simp only [List.length_set, List.length_map]; omega) | (apply Or.inl; rfl) | (apply Or.inr; first | rfl | trivial | fail) | fail) | fail)) only [go_sem, if_pos, if_neg, wrapI, wrapU, decide_eq_true, decide_eq_false, beqT, beqF, bneT, bneF] <;> rfl); simp only [go_sem]) | ((with_reducible apply ops_skip); rfl; simp only [go_sem]) | ((with_reducible apply c_regionD); kernel_rfl) | ((with_reducible apply ops_eff); decide; rfl; (simp (disch := (first | omega | assumption | (simp only [List.length_set, List.length_map]; omega) | ((repeat' with_reducible apply And.intro) <;> first | omega | assumption | rfl | (simp only [List.length_set, List.length_map]; omega) | (apply Or.inl; rfl) | (apply Or.inr; first | rfl | trivial | fail) | fail) | fail)) only [go_sem, if_pos, if_neg, wrapI, wrapU, decide_eq_true, decide_eq_false, beqT, beqF, bneT, bneF] <;> rfl); simp only [go_sem])); (repeat (first | with_reducible (first | refine c_seq ?_ | refine c_block ?_ | refine c_skip ?_ | refine c_exit ?_ | refine c_ret ?_ | refine then_normal ?_ | refine then_exit ?_ | refine then_ret ?_ | refine block_normal ?_ | refine block_here ?_ | refine block_ret ?_ | refine block_far (by decide) ?_ | refine ops_nil ?_ | refine c_cond_t rfl ?_ | refine c_cond_f rfl ?_) | ((with_reducible apply ops_pure); rfl; (simp (disch := (first | omega | assumption | (simp only [List.length_set, List.length_map]; omega) | ((repeat' with_reducible apply And.intro) <;> first | omega | assumption | rfl | (simp only [List.length_set, List.length_map]; omega) | (apply Or.inl; rfl) | (apply Or.inr; first | rfl | trivial | fail) | fail) | fail)) only [go_sem, if_pos, if_neg, wrapI, wrapU, decide_eq_true, decide_eq_false, beqT, beqF, bneT, bneF] <;> rfl); simp only [go_sem]) | ((with_reducible apply ops_pureF); rfl; (intro _; simp (disch := (first | omega | assumption | (simp only [List.length_set, List.length_map]; omega) | ((repeat' with_reducible apply And.intro) <;> first | omega | assumption | rfl | (simp only [List.length_set, List.length_map]; omega) | (apply Or.inl; rfl) | (apply Or.inr; first | rfl | trivial | fail) | fail) | fail)) only [go_sem, if_pos, if_neg, wrapI, wrapU, decide_eq_true, decide_eq_false, beqT, beqF, bneT, bneF] <;> rfl); simp only [go_sem]) | ((with_reducible apply ops_pureD); kernel_rfl; rfl; (simp (disch := (first | omega | assumption | (simp only [List.length_set, List.length_map]; omega) | ((repeat' with_reducible apply And.intro) <;> first | omega | assumption | rfl | (simp only [List.length_set, List.length_map]; omega) | (apply Or.inl; rfl) | (apply Or.inr; first | rfl | trivial | fail) | fail) | fail)) only [go_sem, if_pos, if_neg, wrapI, wrapU, decide_eq_true, decide_eq_false, beqT, beqF, bneT, bneF] <;> rfl); simp only [go_sem]) | ((with_reducible apply ops_skip); rfl; simp only [go_sem]) | ((with_reducible apply c_regionD); kernel_rfl) | ((with_reducible apply ops_eff); decide; rfl; (simp (disch := (first | omega | assumption | (simp only [List.length_set, List.length_map]; omega) | ((repeat' with_reducible apply And.intro) <;> first | omega | assumption | rfl | (simp only [List.length_set, List.length_map]; omega) | (apply Or.inl; rfl) | (apply Or.inr; first | rfl | trivial | fail) | fail) | fail)) only [go_sem, if_pos, if_neg, wrapI, wrapU, decide_eq_true, decide_eq_false, beqT, beqF, bneT, bneF] <;> rfl); simp only [go_sem]))); exact k.get)) : p := h k
theorem lcsv {p : Prop} (h : p := by simp (disch := (first | omega | assumption | (simp only [List.length_set, List.length_map]; omega) | ((repeat' with_reducible apply And.intro) <;> first | omega | assumption | rfl | (simp only [List.length_set, List.length_map]; omega) | (apply Or.inl; rfl) | (apply Or.inr; first | rfl | trivial | fail) | fail) | fail)) only [go_sem, if_pos, if_neg, wrapI, wrapU, decide_eq_true, decide_eq_false, beqT, beqF, bneT, bneF] <;> rfl) : p := h
theorem lccall {T : Tab} {X : CallP} {n0 lo : Nat} {wt : List Tmp} {draw : Bool} {ops : Array Oper} {Q : St → Prop} {rest : List Oper} {o : Oper} {env : List D} {sto : Sto} {f : FuncId} {args : List D} (k : ∃ r, X f args sto (if draw then sto.length else lo) r sto ∧ EvOps T X n0 lo wt draw ops Q rest (St.put ⟨env, sto⟩ o.dst r)) (hg : guardD ops o env = some true := by rfl) (h : evCallee (opd env) sto o = some (f, args) := by simp (disch := (first | omega | assumption | (simp only [List.length_set, List.length_map]; omega) | ((repeat' with_reducible apply And.intro) <;> first | omega | assumption | rfl | (simp only [List.length_set, List.length_map]; omega) | (apply Or.inl; rfl) | (apply Or.inr; first | rfl | trivial | fail) | fail) | fail)) only [go_sem, if_pos, if_neg, wrapI, wrapU, decide_eq_true, decide_eq_false, beqT, beqF, bneT, bneF] <;> rfl) : EvOps T X n0 lo wt draw ops Q (o :: rest) ⟨env, sto⟩ := k.elim fun _ k => ops_call hg h k.1 k.2
attribute [local go_sem] predN List.getElem_set_self List.set_set getS mapSet List.getElem_map List.length_set List.getElem?_toArray
set_option linter.unusedSimpArgs false
set_option linter.unusedVariables false
set_option maxRecDepth 100000
set_option maxHeartbeats 8000000
theorem valuesU_ev (xs : List Nat) (sto : Sto) (lo : Nat) (hlo : lo ≤ sto.length) : CallEv Tryd.prog tab B0 54 [.v (SL VU xs)] sto lo (.clo 67 [sto.length]) (sto ++ [.cells [.v (SL VU xs)]]) := by
  refine CallEv.intro ⟨_, _, [], Tryd.func54, rfl, by decide, ?_⟩; simp only [go_sem, Tryd.ntmps54]
  repeat' (first | (refine lcgo ⟨?_⟩) | (fail) | ((first | (refine bsp ?_ ?_) | (refine csp ?_ ?_)); all_goals (intro hb; (fail_if_success (cases hb; done)); (try simp only [decide_eq_true_eq, decide_eq_false_iff_not, beq_iff_eq, bne_iff_ne, ne_eq, beq_eq_false_iff_ne, bne_eq_false_iff_eq, Bool.not_eq_true', Bool.not_eq_false', Bool.and_eq_true, Bool.or_eq_true, Decidable.not_not] at hb); (try simp only [go_sem]))))
  refine ⟨by first | exact .inr rfl | exact .inl rfl, .inr (.inl ⟨_, rfl, ?_, ?_⟩)⟩
  · rfl
  · rfl
/-- What the array holds at the end. -/
def compC (xs : List Nat) : List V := (dedupA xs).map VU ++ List.replicate (xs.length - (dedupA xs).length) (VU 0)
theorem compC_id {xs : List Nat} (h : dedupA xs = xs) : compC xs = xs.map VU := by rw [compC, h, Nat.sub_self]; simp
theorem compactU_ev (xs : List Nat) (id : Nat) (hx : xs.length < 1000000000) (sto : Sto) (lo : Nat) (hlo : lo ≤ sto.length) (hl : lo ≤ id) (hid : id < sto.length) : CallEv Tryd.prog tab B0 52 [.arr id xs.length] (sto.set id (.arr (some (67, 1)) true xs.length (xs.map VU))) lo (.v (SL VU (dedupA xs))) (sto.set id (.arr (some (67, 1)) false xs.length (compC xs))) := by
  by_cases h2 : xs.length < 2
  · have hd : dedupA xs = xs := dedupA_id xs fun i hi => by omega
    rw [compC_id hd, hd]
    refine CallEv.intro ⟨_, _, [], Tryd.func52, rfl, by decide, ?_⟩; simp only [go_sem, Tryd.ntmps52]
    (try refine lcgoX ⟨?_⟩)
    (with_reducible refine c_region ?_)
    (try refine lcgoX ⟨?_⟩)
    (with_reducible refine c_region ?_)
    (try refine lcgoX ⟨?_⟩)
    ((with_reducible refine c_region_share [id] ?_ ?_); (intro h; cases h); simp (disch := (first | omega | assumption | (simp only [List.length_set, List.length_map]; omega) | ((repeat' with_reducible apply And.intro) <;> first | omega | assumption | rfl | (simp only [List.length_set, List.length_map]; omega) | (apply Or.inl; rfl) | (apply Or.inr; first | rfl | trivial | fail) | fail) | fail)) only [go_sem, if_pos, if_neg, wrapI, wrapU, decide_eq_true, decide_eq_false, beqT, beqF, bneT, bneF])
    (try refine lcgoX ⟨?_⟩)
    refine ⟨by first | exact .inr rfl | exact .inl rfl, .inl ⟨[], _, (by dsimp only [Tryd.f52]; exact lcsv), ?_, ?_⟩⟩
    · rfl
    · (rw [List.take_of_length_le (by simp)])
  refine CallEv.intro ⟨_, _, [], Tryd.func52, rfl, by decide, ?_⟩; simp only [go_sem, Tryd.ntmps52]
  repeat' (first | (refine lcgo ⟨?_⟩) | (fail) | ((first | (refine bsp ?_ ?_) | (refine csp ?_ ?_)); all_goals (intro hb; (fail_if_success (cases hb; done)); (try simp only [decide_eq_true_eq, decide_eq_false_iff_not, beq_iff_eq, bne_iff_ne, ne_eq, beq_eq_false_iff_ne, bne_eq_false_iff_eq, Bool.not_eq_true', Bool.not_eq_false', Bool.and_eq_true, Bool.or_eq_true, Decidable.not_not] at hb); (try simp only [go_sem]))))
  refine c_loop (fun m s => ∃ k : Nat, (1 ≤ k ∧ k ≤ xs.length ∧ m = xs.length - k ∧ Hid (∀ i (h : i + 1 < xs.length), i + 1 < k → xs[i + 1] ≠ xs[i])) ∧ (s.env.length = 61 ∧ s.sto = sto.set id (.arr (some (67, 1)) true xs.length (xs.map VU)) ∧ s.env[0]? = some (.arr id xs.length) ∧ s.env[3]? = some (.v (VI k)))) (.refl _) ⟨1, ⟨by omega, by omega, rfl, Lib.hid fun i h1 h2 => by omega⟩, rfl, rfl, ?_, ?_⟩ ?_
  all_goals first | rfl | skip
  rintro m s ⟨k, ⟨h1, h3, rfl, hnd⟩, hL, hT, k0, k3⟩
  obtain ⟨env, st0⟩ := s; obtain ⟨J, hJ⟩ := listJ hL; rw [show (List.range 61).map J = J 0 :: J 1 :: J 2 :: J 3 :: J 4 :: J 5 :: J 6 :: J 7 :: J 8 :: J 9 :: J 10 :: J 11 :: J 12 :: J 13 :: J 14 :: J 15 :: J 16 :: J 17 :: J 18 :: J 19 :: J 20 :: J 21 :: J 22 :: J 23 :: J 24 :: J 25 :: J 26 :: J 27 :: J 28 :: J 29 :: J 30 :: J 31 :: J 32 :: J 33 :: J 34 :: J 35 :: J 36 :: J 37 :: J 38 :: J 39 :: J 40 :: J 41 :: J 42 :: J 43 :: J 44 :: J 45 :: J 46 :: J 47 :: J 48 :: J 49 :: J 50 :: J 51 :: J 52 :: J 53 :: J 54 :: J 55 :: J 56 :: J 57 :: J 58 :: J 59 :: J 60 :: [] from by kernel_rfl] at hJ; replace k0 := Option.some.inj ((congrArg (·[0]?) hJ).symm.trans k0); replace k3 := Option.some.inj ((congrArg (·[3]?) hJ).symm.trans k3); rw [k0, k3] at hJ; dsimp only at hJ hT; subst hJ; replace hT := hT.symm; subst hT; clear hL k0 k3
  by_cases hk : k < xs.length
  · obtain ⟨k, rfl⟩ : ∃ j, k = j + 1 := ⟨k - 1, by omega⟩
    by_cases he : xs[k + 1] = xs[k]
    · have hpre : dedupA (xs.take (k + 2)) = xs.take (k + 1) := by
        rw [dedupA_take hk, if_pos he.symm]
        exact dedupA_id _ fun i hi => by
          simp only [List.length_take] at hi
          simp only [List.getElem_take]
          exact hnd i (by omega) (by omega)
      have hpreh := Lib.hid hpre
      clear hpre hnd
      repeat' (first | (refine lcgo ⟨?_⟩) | (fail) | ((first | (refine bsp ?_ ?_) | (refine csp ?_ ?_)); all_goals (intro hb; (fail_if_success (cases hb; done)); (try simp only [decide_eq_true_eq, decide_eq_false_iff_not, beq_iff_eq, bne_iff_ne, ne_eq, beq_eq_false_iff_ne, bne_eq_false_iff_eq, Bool.not_eq_true', Bool.not_eq_false', Bool.and_eq_true, Bool.or_eq_true, Decidable.not_not] at hb); (try simp only [go_sem]))))
      refine c_loop (fun m s => ∃ (k1 j : Nat) (zs : List Nat), (1 ≤ j ∧ j ≤ xs.length - (k + 1) ∧ 1 ≤ k1 ∧ k1 + 1 ≤ k + 1 + j ∧ m = xs.length - (k + 1) - j ∧ zs.length = xs.length ∧ Hid (zs.take k1 = dedupA (xs.take (k + 1 + j)) ∧ ∀ i, k + j ≤ i → zs[i]? = xs[i]?)) ∧ (s.env.length = 61 ∧ s.sto = sto.set id (.arr (some (67, 1)) true xs.length (zs.map VU)) ∧ s.env[0]? = some (.arr id xs.length) ∧ s.env[3]? = some (.v (VI k1)) ∧ s.env[4]? = some (.win id xs.length (k + 1) (xs.length - (k + 1))) ∧ s.env[5]? = some (.v (VI j)))) (.refl _) ⟨k + 1, 1, xs, ⟨by omega, by omega, by omega, by omega, rfl, rfl, Lib.hid ⟨hpreh.symm, fun _ _ => rfl⟩⟩, rfl, rfl, ?_, ?_, ?_, ?_⟩ ?_
      all_goals first | rfl | skip
      rintro m s ⟨k1, j, zs, ⟨h4, h5, h6, h6', rfl, h7, h8⟩, hL, hT, k0, k3, k4, k5⟩
      obtain ⟨env, st0⟩ := s; obtain ⟨J, hJ⟩ := listJ hL; rw [show (List.range 61).map J = J 0 :: J 1 :: J 2 :: J 3 :: J 4 :: J 5 :: J 6 :: J 7 :: J 8 :: J 9 :: J 10 :: J 11 :: J 12 :: J 13 :: J 14 :: J 15 :: J 16 :: J 17 :: J 18 :: J 19 :: J 20 :: J 21 :: J 22 :: J 23 :: J 24 :: J 25 :: J 26 :: J 27 :: J 28 :: J 29 :: J 30 :: J 31 :: J 32 :: J 33 :: J 34 :: J 35 :: J 36 :: J 37 :: J 38 :: J 39 :: J 40 :: J 41 :: J 42 :: J 43 :: J 44 :: J 45 :: J 46 :: J 47 :: J 48 :: J 49 :: J 50 :: J 51 :: J 52 :: J 53 :: J 54 :: J 55 :: J 56 :: J 57 :: J 58 :: J 59 :: J 60 :: [] from by kernel_rfl] at hJ; replace k0 := Option.some.inj ((congrArg (·[0]?) hJ).symm.trans k0); replace k3 := Option.some.inj ((congrArg (·[3]?) hJ).symm.trans k3); replace k4 := Option.some.inj ((congrArg (·[4]?) hJ).symm.trans k4); replace k5 := Option.some.inj ((congrArg (·[5]?) hJ).symm.trans k5); rw [k0, k3, k4, k5] at hJ; dsimp only at hJ hT; subst hJ; replace hT := hT.symm; subst hT; clear hL k0 k3 k4 k5
      by_cases hj : j < xs.length - (k + 1)
      · obtain ⟨j, rfl⟩ : ∃ i, j = i + 1 := ⟨j - 1, by omega⟩
        obtain ⟨hA, hB⟩ := h8
        have e1 : zs[k + 1 + (j + 1)] = xs[k + 1 + (j + 1)] := by
          have := hB (k + 1 + (j + 1)) (by omega)
          rw [List.getElem?_eq_getElem (by omega), List.getElem?_eq_getElem (by omega)] at this
          exact Option.some.inj this
        have e2 : zs[k + 1 + j] = xs[k + 1 + j] := by
          have := hB (k + 1 + j) (by omega)
          rw [List.getElem?_eq_getElem (by omega), List.getElem?_eq_getElem (by omega)] at this
          exact Option.some.inj this
        have hstep : dedupA (xs.take (k + 1 + (j + 1) + 1)) = if xs[k + 1 + j] = xs[k + 1 + j + 1] then dedupA (xs.take (k + 1 + (j + 1))) else dedupA (xs.take (k + 1 + (j + 1))) ++ [xs[k + 1 + j + 1]] :=
          dedupA_take (l := xs) (i := k + 1 + j) (by omega)
        have hQ := Lib.hid (And.intro hA (And.intro hB (And.intro e1 (And.intro e2 hstep))))
        clear hA hB e1 e2 hstep
        repeat' (first | (refine lcgo ⟨?_⟩) | (fail) | ((first | (refine bsp ?_ ?_) | (refine csp ?_ ?_)); all_goals (intro hb; (fail_if_success (cases hb; done)); (try simp only [decide_eq_true_eq, decide_eq_false_iff_not, beq_iff_eq, bne_iff_ne, ne_eq, beq_eq_false_iff_ne, bne_eq_false_iff_eq, Bool.not_eq_true', Bool.not_eq_false', Bool.and_eq_true, Bool.or_eq_true, Decidable.not_not] at hb); (try simp only [go_sem]))))
        · obtain ⟨hA, hB, e1, e2, hstep⟩ := hQ
          refine ⟨_, _, ?_, .refl _, k1 + 1, j + 1 + 1, _, ⟨by omega, by omega, by omega, by omega, rfl, by simp only [List.length_set]; exact h7, Lib.hid ⟨?_, fun i hi => ?_⟩⟩, rfl, rfl, ?_, ?_, ?_, ?_⟩
          · omega
          · rw [show k + 1 + (j + 1 + 1) = k + 1 + (j + 1) + 1 from by omega, hstep, if_neg (fun e => hb (by rw [e1, e2]; exact_mod_cast e.symm)), ← hA, List.take_succ_eq_append_getElem (by simp; omega), List.getElem_set_self, List.take_set_of_le (by omega), e1]
            rfl
          · rw [List.getElem?_set_ne (by omega)]
            exact hB i (by omega)
          all_goals rfl
        · obtain ⟨hA, hB, e1, e2, hstep⟩ := hQ
          refine ⟨_, _, ?_, .refl _, k1, j + 1 + 1, zs, ⟨by omega, by omega, by omega, by omega, rfl, h7, Lib.hid ⟨?_, fun i hi => hB i (by omega)⟩⟩, rfl, rfl, ?_, ?_, ?_, ?_⟩
          · omega
          · rw [show k + 1 + (j + 1 + 1) = k + 1 + (j + 1) + 1 from by omega, hstep, if_pos (by rw [e1, e2] at hb; exact_mod_cast hb.symm), hA]
          all_goals rfl
      · obtain ⟨hA, _⟩ := h8
        rw [List.take_of_length_le (by omega : xs.length ≤ k + 1 + j)] at hA
        have hk1 : (dedupA xs).length = k1 := by rw [← hA, List.length_take]; omega
        have hcs : List.take k1 (zs.map VU) ++ ((List.replicate (xs.length - k1) [V.int .u64 0]).flatten ++ List.drop (k1 + (xs.length - k1)) (zs.map VU)) = compC xs := by
          rw [← List.map_take, hA, List.drop_of_length_le (by simp; omega), List.append_nil, compC, hk1]
          congr 1
          generalize xs.length - k1 = r
          induction r with
          | zero => rfl
          | succ r ih => rw [List.replicate_succ, List.flatten_cons, ih, List.replicate_succ]; rfl
        have hlen : (compC xs).length = xs.length := by
          rw [← hcs, ← List.append_assoc, List.drop_of_length_le (by simp; omega), List.append_nil]
          simp only [List.length_append, List.length_take, List.length_map, List.length_flatten, List.map_replicate, List.sum_replicate_nat, List.length_cons, List.length_nil]
          omega
        have hfin : List.take k1 (compC xs) = (dedupA xs).map VU := by
          rw [compC, List.take_left' (by simpa using hk1)]
        clear hA
        (try refine lcgoX ⟨?_⟩)
        (with_reducible refine c_region ?_)
        (try refine lcgoX ⟨?_⟩)
        (with_reducible refine c_region ?_)
        (try refine lcgoX ⟨?_⟩)
        rw [hcs]
        clear hcs
        ((with_reducible refine c_region_share [id] ?_ ?_); (intro h; cases h); simp (disch := (first | omega | assumption | (simp only [List.length_set, List.length_map]; omega) | ((repeat' with_reducible apply And.intro) <;> first | omega | assumption | rfl | (simp only [List.length_set, List.length_map]; omega) | (apply Or.inl; rfl) | (apply Or.inr; first | rfl | trivial | fail) | fail) | fail)) only [go_sem, if_pos, if_neg, wrapI, wrapU, decide_eq_true, decide_eq_false, beqT, beqF, bneT, bneF])
        (try refine lcgoX ⟨?_⟩)
        refine ⟨by first | exact .inr rfl | exact .inl rfl, .inl ⟨[], _, (by dsimp only [Tryd.f52]; exact lcsv), ?_, ?_⟩⟩
        · simp only [Nat.sub_zero, Nat.mul_one, List.drop_zero, hfin, SL, hk1]
        · (rw [List.take_of_length_le (by simp)])
    · repeat' (first | (refine lcgo ⟨?_⟩) | (fail) | ((first | (refine bsp ?_ ?_) | (refine csp ?_ ?_)); all_goals (intro hb; (fail_if_success (cases hb; done)); (try simp only [decide_eq_true_eq, decide_eq_false_iff_not, beq_iff_eq, bne_iff_ne, ne_eq, beq_eq_false_iff_ne, bne_eq_false_iff_eq, Bool.not_eq_true', Bool.not_eq_false', Bool.and_eq_true, Bool.or_eq_true, Decidable.not_not] at hb); (try simp only [go_sem]))))
      refine ⟨_, _, ?_, .refl _, k + 1 + 1, ⟨by omega, by omega, rfl, Lib.hid fun i h1 h2 => ?_⟩, rfl, rfl, ?_, ?_⟩
      · omega
      · rcases Nat.lt_or_ge (i + 1) (k + 1) with h | h
        · exact hnd i h1 h
        · obtain rfl : i = k := by omega
          exact he
      all_goals rfl
  · have hd : dedupA xs = xs := dedupA_id xs fun i hi => hnd i hi (by omega)
    rw [compC_id hd, hd]
    (try refine lcgoX ⟨?_⟩)
    (with_reducible refine c_region ?_)
    (try refine lcgoX ⟨?_⟩)
    ((with_reducible refine c_region_share [id] ?_ ?_); (intro h; cases h); simp (disch := (first | omega | assumption | (simp only [List.length_set, List.length_map]; omega) | ((repeat' with_reducible apply And.intro) <;> first | omega | assumption | rfl | (simp only [List.length_set, List.length_map]; omega) | (apply Or.inl; rfl) | (apply Or.inr; first | rfl | trivial | fail) | fail) | fail)) only [go_sem, if_pos, if_neg, wrapI, wrapU, decide_eq_true, decide_eq_false, beqT, beqF, bneT, bneF])
    (try refine lcgoX ⟨?_⟩)
    refine ⟨by first | exact .inr rfl | exact .inl rfl, .inl ⟨[], _, (by dsimp only [Tryd.f52]; exact lcsv), ?_, ?_⟩⟩
    · rfl
    · (rw [List.take_of_length_le (by simp)])
end Go.Proofs.YtgkhcjdpdgfdbaaDoor
namespace Go.Proofs.YtgkhcjdpdgfdbaaDoor
open Go Go.RowKit

attribute [local irreducible] EvOps EvC
attribute [local go_sem] List.set_set getS List.getElem_set_self List.length_set List.getElem?_toArray
set_option linter.unusedSimpArgs false
set_option linter.unusedVariables false
set_option maxRecDepth 100000
set_option maxHeartbeats 2000000
theorem insertionU0_ev (es : Option (TypeId × Nat)) (cs : List V) (id : Nat) (sto : Sto) (lo : Nat) (hlo : lo ≤ sto.length) (hl : lo ≤ id) (hid : id < sto.length) : CallEv Tryd.prog tab B0 77 [.arr id 0, .v (VI 0), .v (VI 0)] (sto.set id (.arr es true 0 cs)) lo (.v (.tup [])) (sto.set id (.arr es true 0 cs)) := by
  refine CallEv.intro ⟨_, _, [], Tryd.func77, rfl, by decide, ?_⟩; simp only [go_sem, Tryd.ntmps77]
  repeat' (first | (refine go ⟨?_⟩) | (fail) | ((first | (refine bsp ?_ ?_) | (refine csp ?_ ?_)); all_goals (intro hb; (fail_if_success (cases hb; done)); (try simp only [decide_eq_true_eq, decide_eq_false_iff_not, beq_iff_eq, bne_iff_ne, ne_eq, beq_eq_false_iff_ne, bne_eq_false_iff_eq, Bool.not_eq_true', Bool.not_eq_false', Bool.and_eq_true, Bool.or_eq_true, Decidable.not_not] at hb); (try simp only [go_sem]))))
  refine c_loop (fun m s => m = 0 ∧ (s.env.length = 49 ∧ s.sto = sto.set id (.arr es true 0 cs) ∧ s.env[0]? = some (.arr id 0) ∧ s.env[1]? = some (.v (VI 0)) ∧ s.env[2]? = some (.v (VI 0)) ∧ s.env[6]? = some (.v (VI 1)))) (.refl _) ⟨rfl, rfl, rfl, ?_, ?_, ?_, ?_⟩ ?_
  all_goals first | rfl | skip
  rintro m s ⟨rfl, hL, hT, k0, k1, k2, k6⟩
  obtain ⟨env, st0⟩ := s; obtain ⟨J, hJ⟩ := listJ hL; rw [show (List.range 49).map J = J 0 :: J 1 :: J 2 :: J 3 :: J 4 :: J 5 :: J 6 :: J 7 :: J 8 :: J 9 :: J 10 :: J 11 :: J 12 :: J 13 :: J 14 :: J 15 :: J 16 :: J 17 :: J 18 :: J 19 :: J 20 :: J 21 :: J 22 :: J 23 :: J 24 :: J 25 :: J 26 :: J 27 :: J 28 :: J 29 :: J 30 :: J 31 :: J 32 :: J 33 :: J 34 :: J 35 :: J 36 :: J 37 :: J 38 :: J 39 :: J 40 :: J 41 :: J 42 :: J 43 :: J 44 :: J 45 :: J 46 :: J 47 :: J 48 :: [] from by kernel_rfl] at hJ; replace k0 := Option.some.inj ((congrArg (·[0]?) hJ).symm.trans k0); replace k1 := Option.some.inj ((congrArg (·[1]?) hJ).symm.trans k1); replace k2 := Option.some.inj ((congrArg (·[2]?) hJ).symm.trans k2); replace k6 := Option.some.inj ((congrArg (·[6]?) hJ).symm.trans k6); rw [k0, k1, k2, k6] at hJ; dsimp only at hJ hT; subst hJ; replace hT := hT.symm; subst hT; clear hL k0 k1 k2 k6
  repeat' (first | (refine go ⟨?_⟩) | (fail) | ((first | (refine bsp ?_ ?_) | (refine csp ?_ ?_)); all_goals (intro hb; (fail_if_success (cases hb; done)); (try simp only [decide_eq_true_eq, decide_eq_false_iff_not, beq_iff_eq, bne_iff_ne, ne_eq, beq_eq_false_iff_ne, bne_eq_false_iff_eq, Bool.not_eq_true', Bool.not_eq_false', Bool.and_eq_true, Bool.or_eq_true, Decidable.not_not] at hb); (try simp only [go_sem]))))
  refine ⟨by first | exact .inr rfl | exact .inl rfl, .inl ⟨[], _, (by dsimp only [Tryd.f77]; exact sv), ?_, ?_⟩⟩
  · rfl
  · (rw [List.take_of_length_le (by simp)])
theorem pdqU0_ev (es : Option (TypeId × Nat)) (cs : List V) (l : Int) (id : Nat) (sto : Sto) (lo : Nat) (hlo : lo ≤ sto.length) (hl : lo ≤ id) (hid : id < sto.length) : CallEv Tryd.prog tab B0 74 [.arr id 0, .v (VI 0), .v (VI 0), .v (VI l)] (sto.set id (.arr es true 0 cs)) lo (.v (.tup [])) (sto.set id (.arr es true 0 cs)) := by
  have hi := insertionU0_ev es cs id sto lo hlo hl hid
  refine CallEv.intro ⟨_, _, [], Tryd.func74, rfl, by decide, ?_⟩; simp only [go_sem, Tryd.ntmps74]
  (try refine go ⟨?_⟩)
  refine c_loop (fun m s => m = 0 ∧ (s.env.length = 134 ∧ s.sto = sto.set id (.arr es true 0 cs) ∧ s.env[0]? = some (.arr id 0) ∧ s.env[1]? = some (.v (VI 0)) ∧ s.env[2]? = some (.v (VI 0)) ∧ s.env[3]? = some (.v (VI l)) ∧ s.env[8]? = some (.v (.bool true)) ∧ s.env[9]? = some (.v (.bool true)))) (.refl _) ⟨rfl, rfl, rfl, ?_, ?_, ?_, ?_, ?_, ?_⟩ ?_
  all_goals first | rfl | skip
  rintro m s ⟨rfl, hL, hT, k0, k1, k2, k3, k8, k9⟩
  obtain ⟨env, st0⟩ := s; obtain ⟨J, hJ⟩ := listJ hL; rw [show (List.range 134).map J = J 0 :: J 1 :: J 2 :: J 3 :: J 4 :: J 5 :: J 6 :: J 7 :: J 8 :: J 9 :: J 10 :: J 11 :: J 12 :: J 13 :: J 14 :: J 15 :: J 16 :: J 17 :: J 18 :: J 19 :: J 20 :: J 21 :: J 22 :: J 23 :: J 24 :: J 25 :: J 26 :: J 27 :: J 28 :: J 29 :: J 30 :: J 31 :: J 32 :: J 33 :: J 34 :: J 35 :: J 36 :: J 37 :: J 38 :: J 39 :: J 40 :: J 41 :: J 42 :: J 43 :: J 44 :: J 45 :: J 46 :: J 47 :: J 48 :: J 49 :: J 50 :: J 51 :: J 52 :: J 53 :: J 54 :: J 55 :: J 56 :: J 57 :: J 58 :: J 59 :: J 60 :: J 61 :: J 62 :: J 63 :: J 64 :: J 65 :: J 66 :: J 67 :: J 68 :: J 69 :: J 70 :: J 71 :: J 72 :: J 73 :: J 74 :: J 75 :: J 76 :: J 77 :: J 78 :: J 79 :: J 80 :: J 81 :: J 82 :: J 83 :: J 84 :: J 85 :: J 86 :: J 87 :: J 88 :: J 89 :: J 90 :: J 91 :: J 92 :: J 93 :: J 94 :: J 95 :: J 96 :: J 97 :: J 98 :: J 99 :: J 100 :: J 101 :: J 102 :: J 103 :: J 104 :: J 105 :: J 106 :: J 107 :: J 108 :: J 109 :: J 110 :: J 111 :: J 112 :: J 113 :: J 114 :: J 115 :: J 116 :: J 117 :: J 118 :: J 119 :: J 120 :: J 121 :: J 122 :: J 123 :: J 124 :: J 125 :: J 126 :: J 127 :: J 128 :: J 129 :: J 130 :: J 131 :: J 132 :: J 133 :: [] from by kernel_rfl] at hJ; replace k0 := Option.some.inj ((congrArg (·[0]?) hJ).symm.trans k0); replace k1 := Option.some.inj ((congrArg (·[1]?) hJ).symm.trans k1); replace k2 := Option.some.inj ((congrArg (·[2]?) hJ).symm.trans k2); replace k3 := Option.some.inj ((congrArg (·[3]?) hJ).symm.trans k3); replace k8 := Option.some.inj ((congrArg (·[8]?) hJ).symm.trans k8); replace k9 := Option.some.inj ((congrArg (·[9]?) hJ).symm.trans k9); rw [k0, k1, k2, k3, k8, k9] at hJ; dsimp only at hJ hT; subst hJ; replace hT := hT.symm; subst hT; clear hL k0 k1 k2 k3 k8 k9
  repeat' (first | (refine go ⟨?_⟩) | (((with_reducible apply ops_callW); rfl; (simp (disch := (first | omega | assumption | ((repeat' with_reducible apply And.intro) <;> first | omega | assumption | rfl | (apply Or.inl; rfl) | (apply Or.inr; first | rfl | trivial | fail) | fail) | fail)) only [go_sem, if_pos, if_neg, wrapI, wrapU, decide_eq_true, decide_eq_false, beqT, beqF, bneT, bneF] <;> rfl); (exact hi); (first | exact ho_arr | exact ho_arr2 | exact ho_map | exact ho_app (by first | omega | (simp; done) | (simp; omega)) | exact ho_app2 (by first | omega | (simp; done) | (simp; omega))); (try simp only [go_sem]))) | ((first | (refine bsp ?_ ?_) | (refine csp ?_ ?_)); all_goals (intro hb; (fail_if_success (cases hb; done)); (try simp only [decide_eq_true_eq, decide_eq_false_iff_not, beq_iff_eq, bne_iff_ne, ne_eq, beq_eq_false_iff_ne, bne_eq_false_iff_eq, Bool.not_eq_true', Bool.not_eq_false', Bool.and_eq_true, Bool.or_eq_true, Decidable.not_not] at hb); (try simp only [go_sem]))))
  refine ⟨by first | exact .inr rfl | exact .inl rfl, .inl ⟨[], _, (by dsimp only [Tryd.f74]; exact sv), ?_, ?_⟩⟩
  · rfl
  · (rw [List.take_of_length_le (by simp)])
theorem sortU0_ev (es : Option (TypeId × Nat)) (cs : List V) (id : Nat) (sto : Sto) (lo : Nat) (hlo : lo ≤ sto.length) (hl : lo ≤ id) (hid : id < sto.length) : CallEv Tryd.prog tab B0 66 [.arr id 0] (sto.set id (.arr es true 0 cs)) lo (.v (.tup [])) (sto.set id (.arr es true 0 cs)) := by
  obtain ⟨r, hr⟩ := len_ev 0 (by omega) (sto.set id (.arr es true 0 cs)) lo (by simpa using hlo)
  have hi := pdqU0_ev es cs r id sto lo hlo hl hid
  refine CallEv.intro ⟨_, _, [], Tryd.func66, rfl, by decide, ?_⟩; simp only [go_sem, Tryd.ntmps66]
  repeat' (first | (refine go ⟨?_⟩) | (first | ((refine call ?_); (refine ⟨_, hr, ?_⟩); (try simp only [go_sem])) | ((with_reducible apply ops_callW); rfl; (simp (disch := (first | omega | assumption | ((repeat' with_reducible apply And.intro) <;> first | omega | assumption | rfl | (apply Or.inl; rfl) | (apply Or.inr; first | rfl | trivial | fail) | fail) | fail)) only [go_sem, if_pos, if_neg, wrapI, wrapU, decide_eq_true, decide_eq_false, beqT, beqF, bneT, bneF] <;> rfl); (exact hi); (first | exact ho_arr | exact ho_arr2 | exact ho_map | exact ho_app (by first | omega | (simp; done) | (simp; omega)) | exact ho_app2 (by first | omega | (simp; done) | (simp; omega))); (try simp only [go_sem]))) | ((first | (refine bsp ?_ ?_) | (refine csp ?_ ?_)); all_goals (intro hb; (fail_if_success (cases hb; done)); (try simp only [decide_eq_true_eq, decide_eq_false_iff_not, beq_iff_eq, bne_iff_ne, ne_eq, beq_eq_false_iff_ne, bne_eq_false_iff_eq, Bool.not_eq_true', Bool.not_eq_false', Bool.and_eq_true, Bool.or_eq_true, Decidable.not_not] at hb); (try simp only [go_sem]))))
  refine ⟨by first | exact .inr rfl | exact .inl rfl, .inl ⟨[], _, (by dsimp only [Tryd.f66]; exact sv), ?_, ?_⟩⟩
  · rfl
  · (rw [List.take_of_length_le (by simp)])
/-- .. in whatever entries. -/
theorem sortU_at (xs : List Nat) (id : Nat) (hx : xs.length < 13) (sto : Sto) (lo : Nat) (hlo : lo ≤ sto.length) (hl : lo ≤ id) (hs : sto[id]? = some (.arr (if xs.length = 0 then none else some (67, 1)) true xs.length (xs.map VU))) : CallEv Tryd.prog tab B0 66 [.arr id xs.length] sto lo (.v (.tup [])) (sto.set id (.arr (if xs.length = 0 then none else some (67, 1)) true xs.length ((sortN xs).map VU))) := by
  have hid : id < sto.length := (List.getElem?_eq_some_iff.1 hs).1
  by_cases h0 : xs.length = 0
  · obtain rfl : xs = [] := List.eq_nil_of_length_eq_zero h0
    have := sortU0_ev none [] id sto lo hlo hl hid
    have e : sto.set id (.arr none true 0 []) = sto := set_sameE hs
    have e2 : (sortN []).map VU = [] := by simp [sortN]
    simp only [List.length_nil, if_true, e2]
    rw [e] at this ⊢
    exact this
  · have := sortU_ev xs id hx sto lo hlo hl hid
    simp only [if_neg h0] at hs ⊢
    rw [set_sameE hs] at this
    exact this
theorem sortedU_ev (xs : List Nat) (id : Nat) (hx : xs.length < 13) (sto : Sto) (lo : Nat) (hlo : lo ≤ sto.length) (hs : sto[id]? = some (.cells [.v (SL VU xs)])) : CallEv Tryd.prog tab collB 53 [.clo 67 [id]] sto lo (.arr sto.length xs.length) (sto ++ [.arr (if xs.length = 0 then none else some (67, 1)) true xs.length ((sortN xs).map VU)]) := by
  have h1 : ∀ lo2, CallEv Tryd.prog tab collB 65 [.clo 67 [id]] sto lo2 (.arr sto.length xs.length) (sto ++ [.arr (if xs.length = 0 then none else some (67, 1)) true xs.length (xs.map VU)]) := fun lo2 => CallEv.base ⟨rfl, id, _, _, rfl, hs, by simp, by omega, rfl, rfl⟩
  have h2 := (sortU_at xs sto.length hx (sto ++ [.arr (if xs.length = 0 then none else some (67, 1)) true xs.length (xs.map VU)]) lo (by simp; omega) hlo (by simp)).up0 (B := collB)
  rw [set_app0] at h2
  refine CallEv.intro ⟨_, _, [], Tryd.func53, rfl, by decide, ?_⟩; simp only [go_sem, Tryd.ntmps53]
  repeat' (first | (refine go ⟨?_⟩) | (first | ((with_reducible apply ops_callW); rfl; (simp (disch := (first | omega | assumption | ((repeat' with_reducible apply And.intro) <;> first | omega | assumption | rfl | (apply Or.inl; rfl) | (apply Or.inr; first | rfl | trivial | fail) | fail) | fail)) only [go_sem, if_pos, if_neg, wrapI, wrapU, decide_eq_true, decide_eq_false, beqT, beqF, bneT, bneF] <;> rfl); (exact h1 _); (first | exact ho_arr | exact ho_arr2 | exact ho_map | exact ho_app (by first | omega | (simp; done) | (simp; omega)) | exact ho_app2 (by first | omega | (simp; done) | (simp; omega))); (try simp only [go_sem])) | ((with_reducible apply ops_callW); rfl; (simp (disch := (first | omega | assumption | ((repeat' with_reducible apply And.intro) <;> first | omega | assumption | rfl | (apply Or.inl; rfl) | (apply Or.inr; first | rfl | trivial | fail) | fail) | fail)) only [go_sem, if_pos, if_neg, wrapI, wrapU, decide_eq_true, decide_eq_false, beqT, beqF, bneT, bneF] <;> rfl); (exact h2); (first | exact ho_arr | exact ho_arr2 | exact ho_map | exact ho_app (by first | omega | (simp; done) | (simp; omega)) | exact ho_app2 (by first | omega | (simp; done) | (simp; omega))); (try simp only [go_sem]))) | ((first | (refine bsp ?_ ?_) | (refine csp ?_ ?_)); all_goals (intro hb; (fail_if_success (cases hb; done)); (try simp only [decide_eq_true_eq, decide_eq_false_iff_not, beq_iff_eq, bne_iff_ne, ne_eq, beq_eq_false_iff_ne, bne_eq_false_iff_eq, Bool.not_eq_true', Bool.not_eq_false', Bool.and_eq_true, Bool.or_eq_true, Decidable.not_not] at hb); (try simp only [go_sem]))))
  refine ⟨by first | exact .inr rfl | exact .inl rfl, .inr (.inl ⟨_, rfl, ?_, ?_⟩)⟩
  · rfl
  · rfl
end Go.Proofs.YtgkhcjdpdgfdbaaDoor
namespace Go.Proofs.YtgkhcjdpdgfdbaaDoor
open Go Go.RowKit

attribute [local irreducible] EvOps EvC
attribute [local go_sem] List.getElem?_toArray
set_option linter.unusedSimpArgs false
set_option linter.unusedVariables false
set_option maxRecDepth 100000
set_option maxHeartbeats 4000000
/-- A row of a matrix, of which only the kills count. -/
def rowC (r : List Int) : List V := [.sl 0 [], LI r, VI 0, VI 0, VI 0, VI 0, .sl 0 [], .sl 0 [], .sl 0 [], VI 0, VI 0, .sl 0 [], .sl 0 [], .sl 0 [], VI 0, VI 0, VI 0, VI 0, .sl 0 [], .sl 0 []]
theorem rowC_length (r : List Int) : (rowC r).length = 20 := rfl
def rowsC : List (List Int) → List V
  | [] => []
  | r :: rs => rowC r ++ rowsC rs
@[go_sem] theorem rowsC_length : ∀ l : List (List Int), (rowsC l).length = l.length * 20
  | [] => rfl
  | r :: rs => by rw [rowsC, List.length_append, rowC_length, rowsC_length rs, List.length_cons]; omega
@[go_sem] theorem rowsC_at : ∀ {l : List (List Int)} {i : Nat} (h : i < l.length), ((rowsC l).drop (i * 20)).take 20 = rowC l[i]
  | r :: rs, 0, _ => by simp [rowsC, rowC]
  | r :: rs, i + 1, h => by
    have := rowsC_at (l := rs) (i := i) (by simpa using h)
    simp only [rowsC, List.getElem_cons_succ]
    rw [← this, show (i + 1) * 20 = (rowC r).length + i * 20 from by rw [rowC_length]; omega, List.drop_append, List.drop_of_length_le (by omega), List.nil_append, Nat.add_sub_cancel_left]
abbrev MV (rows : List (List Int)) : V := .agg [.sl rows.length (rowsC rows)]
/-- Whether the rows and the costs are possible, as the package looks. -/
def ofOK (rows : List (List Int)) (cost : List Int) : Bool := possS rows cost
theorem shlU {t : Int} (h0 : 0 ≤ t) (h1 : t < 64) : IntKind.wrap .u64 (1 * 2 ^ min t.toNat (IntKind.bits .u64)) = ((2 ^ t.toNat : Nat) : Int) := by
  have hb : IntKind.bits .u64 = 64 := rfl
  obtain ⟨n, rfl⟩ := Int.eq_ofNat_of_zero_le h0
  have h2 : 2 ^ n ≤ 2 ^ 63 := Nat.pow_le_pow_right (by omega) (by omega)
  rw [hb, Int.toNat_natCast, Nat.min_eq_left (by omega), Int.one_mul, IntKind.wrap_u64]
  have : ((2 : Int) ^ n) = ((2 ^ n : Nat) : Int) := by simp
  rw [this]
  generalize 2 ^ n = q at *
  omega
theorem orMask {a : Nat} {t : Int} (ha : a < 18446744073709551616) (h0 : 0 ≤ t) (h1 : t < 64) : orI .u64 (a : Int) (IntKind.wrap .u64 (1 * 2 ^ min t.toNat 64)) = ((a ||| 2 ^ t.toNat : Nat) : Int) := by
  have e := shlU h0 h1
  rw [show IntKind.bits .u64 = 64 from rfl] at e
  have hlt : 2 ^ t.toNat < 18446744073709551616 := Nat.pow_lt_pow_right (a := 2) (m := t.toNat) (n := 64) (by omega) (by omega)
  generalize 2 ^ t.toNat = q at *
  rw [e, orB (by omega) (by omega)]
  simp
theorem shlI {n : Nat} (h1 : n < 62) : IntKind.wrap .i64 (1 * 2 ^ min (Int.toNat (n : Int)) (IntKind.bits .i64)) = ((2 ^ n : Nat) : Int) := by
  have hb : IntKind.bits .i64 = 64 := rfl
  have h2 : 2 ^ n ≤ 2 ^ 61 := Nat.pow_le_pow_right (by omega) (by omega)
  rw [hb, Int.toNat_natCast, Nat.min_eq_left (by omega), Int.one_mul, IntKind.wrap_i64]
  have : ((2 : Int) ^ n) = ((2 ^ n : Nat) : Int) := by simp
  rw [this]
  generalize 2 ^ n = q at *
  omega
theorem mask_take {row : List Int} {i : Nat} (h : i < row.length) : maskS (row.take (i + 1)) = maskS (row.take i) ||| 2 ^ row[i].toNat := by
  rw [List.take_succ_eq_append_getElem h, maskS, List.foldl_append]; rfl
def okRow (n : Nat) (r : List Int) : Bool := r.all fun t => decide (0 ≤ t) && decide (t < n)
theorem okRow_in {n : Nat} {r : List Int} (h : okRow n r = true) : In n r := by
  intro t ht
  have := List.all_eq_true.1 h t ht
  simpa using this
theorem takeWhile_all {p : List Int → Bool} : ∀ {l : List (List Int)}, (∀ r ∈ l, p r = true) → l.takeWhile p = l
  | [], _ => rfl
  | r :: rs, h => by rw [List.takeWhile_cons, h r (by simp)]; simp only [if_true]; rw [takeWhile_all fun x hx => h x (by simp [hx])]
theorem takeWhile_bad {p : List Int → Bool} : ∀ {l : List (List Int)} {i : Nat} (hi : i < l.length), (∀ r ∈ l.take i, p r = true) → p l[i] = false → l.takeWhile p = l.take i
  | r :: rs, 0, _, _, h => by simp only [List.getElem_cons_zero] at h; simp [List.takeWhile_cons, h]
  | r :: rs, i + 1, hi, h1, h => by
    have hr := h1 r (by simp)
    rw [List.takeWhile_cons, hr]
    simp only [if_true, List.take_succ_cons]
    rw [takeWhile_bad (by simpa using hi) (fun x hx => h1 x (by simp [hx])) (by simpa using h)]
def costBad (cost : List Int) : Bool := cost.any fun n => decide (n < 0) || decide (n > 1048576)
def ofP (rows : List (List Int)) (cost : List Int) : V := if 512 < rows.length ∨ 16 < cost.length ∨ costBad cost = true then PV [] cost else PV ((rows.takeWhile (okRow cost.length)).map maskS) cost
theorem possP_eq (rows : List (List Int)) (cost : List Int) : possS rows cost = (!(decide (512 < rows.length ∨ 16 < cost.length ∨ costBad cost = true)) && rows.all (okRow cost.length)) := by
  have hb : costBad cost = !(cost.all fun c => decide (0 ≤ c) && decide (c ≤ 1048576)) := by
    rw [costBad, List.not_all_eq_any_not]
    congr 1
    funext c
    by_cases h1 : c < 0 <;> by_cases h2 : c > 1048576 <;> simp [h1, h2] <;> omega
  rw [possS, hb]
  unfold okRow
  by_cases h1 : rows.length ≤ 512 <;> by_cases h2 : cost.length ≤ 16 <;> cases (cost.all fun c => decide (0 ≤ c) && decide (c ≤ 1048576)) <;> simp [h1, h2] <;> omega
theorem of_ev (rows : List (List Int)) (cost : List Int) (hr : rows.length < 1000000) (hrr : ∀ r ∈ rows, r.length < 1000000) (hc : cost.length < 1000000) (sto : Sto) (lo : Nat) (hlo : lo ≤ sto.length) : CallEv Tryd.prog tab B0 32 [.v (MV rows), .v (LI cost)] sto lo (.v (.tup [ofP rows cost, .bool (possS rows cost)])) sto := by
  have hof := fun sto lo hlo => containsFuncI_ev (B := B0) cost (fun n => decide (n < 0) || decide (n > 1048576)) 51 [] (by omega) sto lo hlo (fun x _ => of1_ev x sto lo hlo)
  change ∀ sto lo, _ → CallEv _ _ _ _ _ _ _ (.v (.bool (costBad cost))) _ at hof
  have hps := possP_eq rows cost
  have hofP : ofP rows cost = if 512 < rows.length ∨ 16 < cost.length ∨ costBad cost = true then PV [] cost else PV ((rows.takeWhile (okRow cost.length)).map maskS) cost := rfl
  generalize costBad cost = cb at *
  by_cases hL : 512 < rows.length ∨ 16 < cost.length ∨ cb = true
  · rw [hps, hofP, if_pos hL, decide_eq_true hL]
    clear hps hofP
    have hLh := Lib.hid hL
    clear hL
    refine CallEv.intro ⟨_, _, [], Tryd.func32, rfl, by decide, ?_⟩; simp only [go_sem, Tryd.ntmps32]
    repeat' (first | (refine go ⟨?_⟩) | (((refine call ?_); (refine ⟨_, hof _ _ (by first | omega | (simp; done) | (simp; omega)), ?_⟩); (try simp only [go_sem]))) | ((first | (refine bsp ?_ ?_) | (refine csp ?_ ?_)); all_goals (intro hb; (fail_if_success (cases hb; done)); (try simp only [decide_eq_true_eq, decide_eq_false_iff_not, beq_iff_eq, bne_iff_ne, ne_eq, beq_eq_false_iff_ne, bne_eq_false_iff_eq, Bool.not_eq_true', Bool.not_eq_false', Bool.and_eq_true, Bool.or_eq_true, Decidable.not_not] at hb); (try simp only [go_sem]))))
    · refine ⟨by first | exact .inr rfl | exact .inl rfl, .inl ⟨[], _, (by dsimp only [Tryd.f32]; exact sv), ?_, by simp⟩⟩
      rfl
    · refine ⟨by first | exact .inr rfl | exact .inl rfl, .inl ⟨[], _, (by dsimp only [Tryd.f32]; exact sv), ?_, by simp⟩⟩
      rfl
    · refine ⟨by first | exact .inr rfl | exact .inl rfl, .inl ⟨[], _, (by dsimp only [Tryd.f32]; exact sv), ?_, by simp⟩⟩
      rfl
    · exfalso
      have hL : _ ∨ _ ∨ _ := hLh
      rcases hL with h | h | h
      · omega
      · omega
      · simp_all
  · rw [hps, hofP, if_neg hL, decide_eq_false hL]
    have h1 : rows.length ≤ 512 := by omega
    have h2 : cost.length ≤ 16 := by omega
    obtain rfl : cb = false := by cases cb <;> simp_all
    clear hps hofP hL
    refine CallEv.intro ⟨_, _, [], Tryd.func32, rfl, by decide, ?_⟩; simp only [go_sem, Tryd.ntmps32]
    repeat' (first | (refine go ⟨?_⟩) | (((refine call ?_); (refine ⟨_, hof _ _ (by first | omega | (simp; done) | (simp; omega)), ?_⟩); (try simp only [go_sem]))) | ((first | (refine bsp ?_ ?_) | (refine csp ?_ ?_)); all_goals (intro hb; (fail_if_success (cases hb; done)); (try simp only [decide_eq_true_eq, decide_eq_false_iff_not, beq_iff_eq, bne_iff_ne, ne_eq, beq_eq_false_iff_ne, bne_eq_false_iff_eq, Bool.not_eq_true', Bool.not_eq_false', Bool.and_eq_true, Bool.or_eq_true, Decidable.not_not] at hb); (try simp only [go_sem]))))
    clear hof
    refine c_loop (fun m s => ∃ (i : Nat) (cs : List V) (es : Option (TypeId × Nat)) (js : List Ent), (i ≤ rows.length ∧ m = rows.length - i ∧ cs = ((rows.take i).map maskS).map VU ∧ (es = none ∨ es = some (67, 1)) ∧ Hid (∀ r ∈ rows.take i, okRow cost.length r = true)) ∧ (s.env.length = 64 ∧ s.sto = sto ++ .cells [.v (.sl rows.length (rowsC rows))] :: .cells [.nilS, .nilS] :: .cells [.arr (sto.length + 3) i, .v (LI cost)] :: .arr es false i cs :: js ∧ s.env[1]? = some (.v (LI cost)) ∧ s.env[2]? = some (.ptr sto.length 0) ∧ s.env[4]? = some (.ptr (sto.length + 1) 0) ∧ s.env[6]? = some (.ptr (sto.length + 2) 0) ∧ s.env[29]? = some (.v (.sl rows.length (rowsC rows))) ∧ s.env[30]? = some (.v (VI rows.length)) ∧ s.env[31]? = some (.v (VI i)))) (.adoptC _ (sto.length + 2) 0 false [.nilS, .v (LI cost)] (by simp) rfl (by omega) (by omega)) ⟨0, _, _, [], ⟨by omega, rfl, rfl, .inl rfl, Lib.hid (fun r h => by simp at h)⟩, rfl, ?_, ?_, ?_, ?_, ?_, ?_, ?_, ?_⟩ ?_
    all_goals first | rfl | (simp; done) | skip
    rintro m s ⟨i, cs, es, js, ⟨h3, rfl, rfl, h4, h5⟩, hL, hT, k1, k2, k4, k6, k29, k30, k31⟩
    obtain ⟨env, st0⟩ := s; obtain ⟨J, hJ⟩ := listJ hL; rw [show (List.range 64).map J = J 0 :: J 1 :: J 2 :: J 3 :: J 4 :: J 5 :: J 6 :: J 7 :: J 8 :: J 9 :: J 10 :: J 11 :: J 12 :: J 13 :: J 14 :: J 15 :: J 16 :: J 17 :: J 18 :: J 19 :: J 20 :: J 21 :: J 22 :: J 23 :: J 24 :: J 25 :: J 26 :: J 27 :: J 28 :: J 29 :: J 30 :: J 31 :: J 32 :: J 33 :: J 34 :: J 35 :: J 36 :: J 37 :: J 38 :: J 39 :: J 40 :: J 41 :: J 42 :: J 43 :: J 44 :: J 45 :: J 46 :: J 47 :: J 48 :: J 49 :: J 50 :: J 51 :: J 52 :: J 53 :: J 54 :: J 55 :: J 56 :: J 57 :: J 58 :: J 59 :: J 60 :: J 61 :: J 62 :: J 63 :: [] from by kernel_rfl] at hJ; replace k1 := Option.some.inj ((congrArg (·[1]?) hJ).symm.trans k1); replace k2 := Option.some.inj ((congrArg (·[2]?) hJ).symm.trans k2); replace k4 := Option.some.inj ((congrArg (·[4]?) hJ).symm.trans k4); replace k6 := Option.some.inj ((congrArg (·[6]?) hJ).symm.trans k6); replace k29 := Option.some.inj ((congrArg (·[29]?) hJ).symm.trans k29); replace k30 := Option.some.inj ((congrArg (·[30]?) hJ).symm.trans k30); replace k31 := Option.some.inj ((congrArg (·[31]?) hJ).symm.trans k31); rw [k1, k2, k4, k6, k29, k30, k31] at hJ; dsimp only at hJ hT; subst hJ; replace hT := hT.symm; subst hT; clear hL k1 k2 k4 k6 k29 k30 k31
    have hcl : (((rows.take i).map maskS).map VU).length = i := by simp; omega
    by_cases hi : i < rows.length
    · have hrl := hrr rows[i] (List.getElem_mem hi)
      obtain ⟨row, hrow⟩ : ∃ row, rows[i] = row := ⟨_, rfl⟩
      have hnx : ((rows.take (i + 1)).map maskS).map VU = ((rows.take i).map maskS).map VU ++ [VU (maskS row)] := by
        rw [List.take_succ_eq_append_getElem hi, hrow]; simp
      have htk : rows.take (i + 1) = rows.take i ++ [row] := by rw [List.take_succ_eq_append_getElem hi, hrow]
      have hbad : okRow cost.length row = false → rows.takeWhile (okRow cost.length) = rows.take i ∧ rows.all (okRow cost.length) = false := fun h => by
        refine ⟨takeWhile_bad hi h5 (by rw [hrow]; exact h), ?_⟩
        rw [List.all_eq_false]
        exact ⟨row, by rw [← hrow]; exact List.getElem_mem hi, by simp [h]⟩
      have hQ := Lib.hid (And.intro hnx (And.intro htk hbad))
      clear hnx htk hbad
      repeat' (first | (refine go ⟨?_⟩) | (fail) | ((first | (refine bsp ?_ ?_) | (refine csp ?_ ?_)); all_goals (intro hb; (fail_if_success (cases hb; done)); (try simp only [decide_eq_true_eq, decide_eq_false_iff_not, beq_iff_eq, bne_iff_ne, ne_eq, beq_eq_false_iff_ne, bne_eq_false_iff_eq, Bool.not_eq_true', Bool.not_eq_false', Bool.and_eq_true, Bool.or_eq_true, Decidable.not_not] at hb); (try simp only [go_sem]))))
      rw [hrow] at hrl ⊢
      clear hrow hrr
      generalize hcs : ((rows.take i).map maskS).map VU = cs at *
      generalize js ++ [Ent.cells (List.map D.v (rowC row) ++ [])] = js2
      refine c_loop (fun m s => ∃ j : Nat, (j ≤ row.length ∧ m = row.length - j ∧ Hid (okRow cost.length (row.take j) = true)) ∧ (s.env.length = 64 ∧ s.sto = sto ++ .cells [.v (.sl rows.length (rowsC rows))] :: .cells [.nilS, .nilS] :: .cells [.arr (sto.length + 3) i, .v (LI cost)] :: .arr es false i cs :: js2 ∧ s.env[1]? = some (.v (LI cost)) ∧ s.env[2]? = some (.ptr sto.length 0) ∧ s.env[4]? = some (.ptr (sto.length + 1) 0) ∧ s.env[6]? = some (.ptr (sto.length + 2) 0) ∧ s.env[9]? = some (.v (VU (maskS (row.take j)))) ∧ s.env[29]? = some (.v (.sl rows.length (rowsC rows))) ∧ s.env[30]? = some (.v (VI rows.length)) ∧ s.env[31]? = some (.v (VI i)) ∧ s.env[36]? = some (.v (LI row)) ∧ s.env[37]? = some (.v (VI row.length)) ∧ s.env[38]? = some (.v (VI j)))) (.refl _) ⟨0, ⟨by omega, rfl, Lib.hid rfl⟩, rfl, rfl, ?_, ?_, ?_, ?_, ?_, ?_, ?_, ?_, ?_, ?_, ?_⟩ ?_
      all_goals first | rfl | skip
      rintro m s ⟨j, ⟨h6, rfl, h7⟩, hL, hT, k1, k2, k4, k6, k9, k29, k30, k31, k36, k37, k38⟩
      obtain ⟨env, st0⟩ := s; obtain ⟨J, hJ⟩ := listJ hL; rw [show (List.range 64).map J = J 0 :: J 1 :: J 2 :: J 3 :: J 4 :: J 5 :: J 6 :: J 7 :: J 8 :: J 9 :: J 10 :: J 11 :: J 12 :: J 13 :: J 14 :: J 15 :: J 16 :: J 17 :: J 18 :: J 19 :: J 20 :: J 21 :: J 22 :: J 23 :: J 24 :: J 25 :: J 26 :: J 27 :: J 28 :: J 29 :: J 30 :: J 31 :: J 32 :: J 33 :: J 34 :: J 35 :: J 36 :: J 37 :: J 38 :: J 39 :: J 40 :: J 41 :: J 42 :: J 43 :: J 44 :: J 45 :: J 46 :: J 47 :: J 48 :: J 49 :: J 50 :: J 51 :: J 52 :: J 53 :: J 54 :: J 55 :: J 56 :: J 57 :: J 58 :: J 59 :: J 60 :: J 61 :: J 62 :: J 63 :: [] from by kernel_rfl] at hJ; replace k1 := Option.some.inj ((congrArg (·[1]?) hJ).symm.trans k1); replace k2 := Option.some.inj ((congrArg (·[2]?) hJ).symm.trans k2); replace k4 := Option.some.inj ((congrArg (·[4]?) hJ).symm.trans k4); replace k6 := Option.some.inj ((congrArg (·[6]?) hJ).symm.trans k6); replace k9 := Option.some.inj ((congrArg (·[9]?) hJ).symm.trans k9); replace k29 := Option.some.inj ((congrArg (·[29]?) hJ).symm.trans k29); replace k30 := Option.some.inj ((congrArg (·[30]?) hJ).symm.trans k30); replace k31 := Option.some.inj ((congrArg (·[31]?) hJ).symm.trans k31); replace k36 := Option.some.inj ((congrArg (·[36]?) hJ).symm.trans k36); replace k37 := Option.some.inj ((congrArg (·[37]?) hJ).symm.trans k37); replace k38 := Option.some.inj ((congrArg (·[38]?) hJ).symm.trans k38); rw [k1, k2, k4, k6, k9, k29, k30, k31, k36, k37, k38] at hJ; dsimp only at hJ hT; subst hJ; replace hT := hT.symm; subst hT; clear hL k1 k2 k4 k6 k9 k29 k30 k31 k36 k37 k38
      by_cases hj : j < row.length
      · by_cases ht : 0 ≤ row[j] ∧ row[j] < cost.length
        · have hin := okRow_in h7
          have hm1 : maskS (row.take j) < 18446744073709551616 := Nat.lt_of_lt_of_le (mask_lt hin) (Nat.pow_le_pow_right (by omega) (by omega : cost.length ≤ 64))
          have hm2 : 2 ^ row[j].toNat < 18446744073709551616 := Nat.lt_of_lt_of_le (Nat.pow_lt_pow_right (a := 2) (m := row[j].toNat) (n := 16) (by omega) (by omega)) (by omega)
          have hmt := mask_take hj
          have hshl := orMask hm1 ht.1 (by omega)
          have hok : okRow cost.length (row.take (j + 1)) = true := by
            rw [List.take_succ_eq_append_getElem hj, okRow, List.all_append, ← okRow]
            have h7' : okRow cost.length (row.take j) = true := h7
            rw [h7']
            simp [ht.1, ht.2]
          have hR := Lib.hid (And.intro hmt (And.intro hok hshl))
          clear hin hmt hok hshl
          repeat' (first | (refine go ⟨?_⟩) | (fail) | ((first | (refine bsp ?_ ?_) | (refine csp ?_ ?_)); all_goals (intro hb; (fail_if_success (cases hb; done)); (try simp only [decide_eq_true_eq, decide_eq_false_iff_not, beq_iff_eq, bne_iff_ne, ne_eq, beq_eq_false_iff_ne, bne_eq_false_iff_eq, Bool.not_eq_true', Bool.not_eq_false', Bool.and_eq_true, Bool.or_eq_true, Decidable.not_not] at hb); (try simp only [go_sem]))))
          obtain ⟨hmt, hok, hshl⟩ := hR
          refine ⟨_, _, ?_, .refl _, j + 1, ⟨by omega, rfl, Lib.hid hok⟩, rfl, rfl, ?_, ?_, ?_, ?_, ?_, ?_, ?_, ?_, ?_, ?_, ?_⟩
          · omega
          all_goals first | rfl | (rw [hmt]; exact congrArg (fun z => some (D.v (V.int .u64 z))) hshl)
        · have hbr : okRow cost.length row = false := by
            cases h : okRow cost.length row with
            | false => rfl
            | true => exact absurd (okRow_in h row[j] (List.getElem_mem hj)) ht
          obtain ⟨_, _, hbad⟩ := hQ
          obtain ⟨b1, b2⟩ := hbad hbr
          have hbh := Lib.hid (And.intro b1 b2)
          clear b1 b2 hbad hbr
          repeat' (first | (refine go ⟨?_⟩) | (fail) | ((first | (refine bsp ?_ ?_) | (refine csp ?_ ?_)); all_goals (intro hb; (fail_if_success (cases hb; done)); (try simp only [decide_eq_true_eq, decide_eq_false_iff_not, beq_iff_eq, bne_iff_ne, ne_eq, beq_eq_false_iff_ne, bne_eq_false_iff_eq, Bool.not_eq_true', Bool.not_eq_false', Bool.and_eq_true, Bool.or_eq_true, Decidable.not_not] at hb); (try simp only [go_sem]))))
          all_goals (refine ⟨by first | exact .inr rfl | exact .inl rfl, .inl ⟨[], _, (by dsimp only [Tryd.f32]; exact sv), ?_, by simp⟩⟩)
          all_goals
            obtain ⟨b1, b2⟩ := hbh
            have hl : ((rows.take i).map maskS).length = i := by simp; omega
            rw [b1, b2]
            simp only [PV, SL, hl, hcs]
            rfl
      · have hjl : j = row.length := by omega
        rw [List.take_of_length_le (by omega)] at h7
        rw [List.take_of_length_le (by omega : row.length ≤ j)]
        obtain ⟨hnx, htk, _⟩ := hQ
        have hok : okRow cost.length row = true := h7
        have hQ := Lib.hid (And.intro hnx (And.intro htk hok))
        clear hnx htk hok h7
        repeat' (first | (refine go ⟨?_⟩) | (fail) | ((first | (refine bsp ?_ ?_) | (refine csp ?_ ?_)); all_goals (intro hb; (fail_if_success (cases hb; done)); (try simp only [decide_eq_true_eq, decide_eq_false_iff_not, beq_iff_eq, bne_iff_ne, ne_eq, beq_eq_false_iff_ne, bne_eq_false_iff_eq, Bool.not_eq_true', Bool.not_eq_false', Bool.and_eq_true, Bool.or_eq_true, Decidable.not_not] at hb); (try simp only [go_sem]))))
        obtain ⟨hnx, htk, hok⟩ := hQ
        refine ⟨_, _, ?_, .refl _, i + 1, _, _, js2, ⟨by omega, rfl, rfl, .inr rfl, Lib.hid fun r hr => ?_⟩, rfl, ?_, ?_, ?_, ?_, ?_, ?_, ?_, ?_⟩
        · omega
        · rw [htk] at hr
          rcases List.mem_append.1 hr with h | h
          · exact h5 r h
          · rw [List.mem_singleton.1 h]; exact hok
        all_goals first | rfl | (rw [hnx]; rfl) | skip
    · repeat' (first | (refine go ⟨?_⟩) | (fail) | ((first | (refine bsp ?_ ?_) | (refine csp ?_ ?_)); all_goals (intro hb; (fail_if_success (cases hb; done)); (try simp only [decide_eq_true_eq, decide_eq_false_iff_not, beq_iff_eq, bne_iff_ne, ne_eq, beq_eq_false_iff_ne, bne_eq_false_iff_eq, Bool.not_eq_true', Bool.not_eq_false', Bool.and_eq_true, Bool.or_eq_true, Decidable.not_not] at hb); (try simp only [go_sem]))))
      refine ⟨by first | exact .inr rfl | exact .inl rfl, .inl ⟨[], _, (by dsimp only [Tryd.f32]; exact sv), ?_, by simp⟩⟩
      obtain rfl : i = rows.length := by omega
      have h5' : ∀ r ∈ rows.take rows.length, okRow cost.length r = true := h5
      rw [List.take_of_length_le (Nat.le_refl _)] at h5' ⊢
      have e1 : rows.takeWhile (okRow cost.length) = rows := takeWhile_all h5'
      have e2 : rows.all (okRow cost.length) = true := List.all_eq_true.2 h5'
      rw [e1, e2]
      simp only [PV, SL, List.length_map]
      rfl
end Go.Proofs.YtgkhcjdpdgfdbaaDoor
namespace Go.Proofs.YtgkhcjdpdgfdbaaDoor
open Go Go.RowKit

attribute [local irreducible] EvOps EvC
attribute [local go_sem] List.set_set getS List.getElem_set_self List.length_set List.getElem?_toArray
set_option linter.unusedSimpArgs false
set_option linter.unusedVariables false
set_option maxRecDepth 100000
set_option maxHeartbeats 2000000
theorem compactU0_ev (es : Option (TypeId × Nat)) (id : Nat) (sto : Sto) (lo : Nat) (hlo : lo ≤ sto.length) (hl : lo ≤ id) (hid : id < sto.length) : CallEv Tryd.prog tab B0 52 [.arr id 0] (sto.set id (.arr es true 0 [])) lo (.v (.sl 0 [])) (sto.set id (.arr es false 0 [])) := by
  refine CallEv.intro ⟨_, _, [], Tryd.func52, rfl, by decide, ?_⟩; simp only [go_sem, Tryd.ntmps52]
  (try refine goX ⟨?_⟩)
  (with_reducible refine c_region ?_)
  (try refine goX ⟨?_⟩)
  (with_reducible refine c_region ?_)
  (try refine goX ⟨?_⟩)
  ((with_reducible refine c_region_share [id] ?_ ?_); (intro h; cases h); simp (disch := (first | omega | assumption | ((repeat' with_reducible apply And.intro) <;> first | omega | assumption | rfl | (apply Or.inl; rfl) | (apply Or.inr; first | rfl | trivial | fail) | fail) | fail)) only [go_sem, if_pos, if_neg, wrapI, wrapU, decide_eq_true, decide_eq_false, beqT, beqF, bneT, bneF])
  (try refine goX ⟨?_⟩)
  refine ⟨by first | exact .inr rfl | exact .inl rfl, .inl ⟨[], _, (by dsimp only [Tryd.f52]; exact sv), ?_, ?_⟩⟩
  · rfl
  · (rw [List.take_of_length_le (by simp)])
/-- .. in whatever entries. -/
theorem compactU_at (xs : List Nat) (id : Nat) (hx : xs.length < 1000000000) (sto : Sto) (lo : Nat) (hlo : lo ≤ sto.length) (hl : lo ≤ id) (hs : sto[id]? = some (.arr (if xs.length = 0 then none else some (67, 1)) true xs.length (xs.map VU))) : CallEv Tryd.prog tab B0 52 [.arr id xs.length] sto lo (.v (SL VU (dedupA xs))) (sto.set id (.arr (if xs.length = 0 then none else some (67, 1)) false xs.length (compC xs))) := by
  have hid : id < sto.length := (List.getElem?_eq_some_iff.1 hs).1
  by_cases h0 : xs.length = 0
  · obtain rfl : xs = [] := List.eq_nil_of_length_eq_zero h0
    have := compactU0_ev none id sto lo hlo hl hid
    have e : sto.set id (.arr none true 0 []) = sto := set_sameE hs
    rw [e] at this
    exact this
  · have := compactU_ev xs id hx sto lo hlo hl hid
    simp only [if_neg h0] at hs ⊢
    rw [set_sameE hs] at this
    exact this
end Go.Proofs.YtgkhcjdpdgfdbaaDoor
namespace Go.Proofs.YtgkhcjdpdgfdbaaDoor
open Go Go.RowKit

attribute [local irreducible] EvOps EvC
attribute [local go_sem] List.getElem?_toArray getS
set_option linter.unusedSimpArgs false
set_option linter.unusedVariables false
set_option maxRecDepth 100000
set_option maxHeartbeats 4000000
theorem least1_set (r n : Nat) (hr : r < 18446744073709551616) (hn : n < 18446744073709551616) (id : Nat) (sto : Sto) (lo : Nat) (hid : id < sto.length) : CallEv Tryd.prog tab B0 56 [.v (VU r), .ptr id 0] (sto.set id (.cells [.v (VU n)])) lo (.v (.bool (decide (r ≠ 0) && decide (r &&& n = 0)))) (sto.set id (.cells [.v (VU n)])) := by
  refine CallEv.intro ⟨_, _, [], Tryd.func56, rfl, by decide, ?_⟩; simp only [go_sem, Tryd.ntmps56]
  repeat' (first | (refine go ⟨?_⟩) | (fail) | ((first | (refine bsp ?_ ?_) | (refine csp ?_ ?_)); all_goals (intro hb; (fail_if_success (cases hb; done)); (try simp only [decide_eq_true_eq, decide_eq_false_iff_not, beq_iff_eq, bne_iff_ne, ne_eq, beq_eq_false_iff_ne, bne_eq_false_iff_eq, Bool.not_eq_true', Bool.not_eq_false', Bool.and_eq_true, Bool.or_eq_true, Decidable.not_not] at hb); (try simp only [go_sem]))))
  · refine ⟨by first | exact .inr rfl | exact .inl rfl, .inl ⟨[], _, (by dsimp only [Tryd.f56]; exact sv), ?_, ?_⟩⟩
    · have h1 : r ≠ 0 := by omega
      have h2 : (((r &&& n : Nat) : Int) == 0) = decide (r &&& n = 0) := by
        by_cases h : r &&& n = 0
        · simp [h]
        · simp [h]
      rw [h2]
      simp [h1]
    · (rw [List.take_of_length_le (by simp)])
  · refine ⟨by first | exact .inr rfl | exact .inl rfl, .inl ⟨[], _, (by dsimp only [Tryd.f56]; exact sv), ?_, ?_⟩⟩
    · have h1 : r = 0 := by omega
      simp [h1]
    · (rw [List.take_of_length_le (by simp)])
theorem least1_ev (r n : Nat) (hr : r < 18446744073709551616) (hn : n < 18446744073709551616) (id : Nat) (sto : Sto) (lo : Nat) (hs : sto[id]? = some (.cells [.v (VU n)])) : CallEv Tryd.prog tab B0 56 [.v (VU r), .ptr id 0] sto lo (.v (.bool (decide (r ≠ 0) && decide (r &&& n = 0)))) sto := by
  have h := least1_set r n hr hn id sto lo (List.getElem?_eq_some_iff.1 hs).1
  rwa [set_sameE hs] at h
/-- A row that needs a test and gets none. -/
def lacks (ms : List Nat) (n : Nat) : Bool := ms.any fun r => decide (r ≠ 0) && decide (r &&& n = 0)
theorem lacks_congr {ms ms' : List Nat} (h : ∀ r, r ∈ ms ↔ r ∈ ms') (n : Nat) : lacks ms n = lacks ms' n := by
  unfold lacks
  rw [Bool.eq_iff_iff, List.any_eq_true, List.any_eq_true]
  exact ⟨fun ⟨r, h1, h2⟩ => ⟨r, (h r).1 h1, h2⟩, fun ⟨r, h1, h2⟩ => ⟨r, (h r).2 h1, h2⟩⟩
abbrev LS := Nat × Int × Bool
def lstep (ms : List Nat) (cost : List Int) (s : LS) (n : Nat) : LS := if lacks ms n then s else if !s.2.2 || beforeN n s.1 (priceS cost (ints (bitsN n))) s.2.1 then (n, priceS cost (ints (bitsN n)), true) else s
def lfold (ms : List Nat) (cost : List Int) (k : Nat) : LS := (List.range k).foldl (lstep ms cost) (0, 0, false)
theorem lfold_succ (ms : List Nat) (cost : List Int) (k : Nat) : lfold ms cost (k + 1) = lstep ms cost (lfold ms cost k) k := by
  rw [lfold, List.range_succ, List.foldl_append]; rfl
theorem lfold_lt (ms : List Nat) (cost : List Int) : ∀ k, 0 < k → (lfold ms cost k).1 < k
  | 0, h => by omega
  | k + 1, _ => by
    rw [lfold_succ, lstep]
    have ih : (lfold ms cost k).1 < k + 1 := by
      rcases Nat.eq_zero_or_pos k with rfl | h
      · simp [lfold]
      · have := lfold_lt ms cost k h; omega
    split
    · exact ih
    · split
      · show k < k + 1; omega
      · exact ih
def leastN (ms : List Nat) (cost : List Int) : Nat := (lfold ms cost (2 ^ cost.length)).1
theorem least_ev (ms : List Nat) (cost : List Int) (hm : ms.length < 13) (hms : ∀ r ∈ ms, r < 18446744073709551616) (hc : CostOK cost) (hc8 : cost.length ≤ 8) (sto : Sto) (lo : Nat) (hlo : lo ≤ sto.length) : CallEv Tryd.prog tab collB 33 [.v (PV ms cost)] sto lo (.v (VU (leastN ms cost))) sto := by
  have hpw : 2 ^ cost.length ≤ 256 := Nat.pow_le_pow_right (n := 2) (by omega) hc8
  have hpos : 0 < 2 ^ cost.length := Nat.two_pow_pos _
  have hds : ∀ r, r ∈ dedupA (sortN ms) ↔ r ∈ ms := fun r => by rw [dedupA_mem]; exact (sortN_perm ms).mem_iff
  have hdl : (dedupA (sortN ms)).length ≤ 12 := by
    have h1 := dedupA_length (sortN ms)
    have h2 := (sortN_perm ms).length_eq
    omega
  have hlen : (sortN ms).length = ms.length := (sortN_perm ms).length_eq
  refine CallEv.intro ⟨_, _, [], Tryd.func33, rfl, by decide, ?_⟩; simp only [go_sem, Tryd.ntmps33]
  repeat' (first | (refine go ⟨?_⟩) | (((with_reducible apply ops_callW); rfl; (simp (disch := (first | omega | assumption | ((repeat' with_reducible apply And.intro) <;> first | omega | assumption | rfl | (apply Or.inl; rfl) | (apply Or.inr; first | rfl | trivial | fail) | fail) | fail)) only [go_sem, if_pos, if_neg, wrapI, wrapU, decide_eq_true, decide_eq_false, beqT, beqF, bneT, bneF] <;> rfl); (exact (valuesU_ev ms _ _ (by first | omega | (simp; done) | (simp; omega))).up0); (first | exact ho_arr | exact ho_arr2 | exact ho_map | exact ho_app (by first | omega | (simp; done) | (simp; omega)) | exact ho_app2 (by first | omega | (simp; done) | (simp; omega))); (try simp only [go_sem]))) | ((first | (refine bsp ?_ ?_) | (refine csp ?_ ?_)); all_goals (intro hb; (fail_if_success (cases hb; done)); (try simp only [decide_eq_true_eq, decide_eq_false_iff_not, beq_iff_eq, bne_iff_ne, ne_eq, beq_eq_false_iff_ne, bne_eq_false_iff_eq, Bool.not_eq_true', Bool.not_eq_false', Bool.and_eq_true, Bool.or_eq_true, Decidable.not_not] at hb); (try simp only [go_sem]))))
  ((with_reducible apply ops_callW); rfl; (simp (disch := (first | omega | assumption | ((repeat' with_reducible apply And.intro) <;> first | omega | assumption | rfl | (apply Or.inl; rfl) | (apply Or.inr; first | rfl | trivial | fail) | fail) | fail)) only [go_sem, if_pos, if_neg, wrapI, wrapU, decide_eq_true, decide_eq_false, beqT, beqF, bneT, bneF] <;> rfl); (exact sortedU_ev ms _ hm _ _ (by first | omega | (simp; done) | (simp; omega)) (by simp only [go_sem])); (first | exact ho_arr | exact ho_arr2 | exact ho_map | exact ho_app (by first | omega | (simp; done) | (simp; omega)) | exact ho_app2 (by first | omega | (simp; done) | (simp; omega))); (try simp only [go_sem]))
  have hcomp := fun S hS => (compactU_at (sortN ms) (sto.length + 2) (by omega) S lo (by
    have := (List.getElem?_eq_some_iff.1 hS).1; omega) (by omega) hS).up0 (B := collB)
  rw [hlen] at hcomp
  ((with_reducible apply ops_callW); rfl; (simp (disch := (first | omega | assumption | ((repeat' with_reducible apply And.intro) <;> first | omega | assumption | rfl | (apply Or.inl; rfl) | (apply Or.inr; first | rfl | trivial | fail) | fail) | fail)) only [go_sem, if_pos, if_neg, wrapI, wrapU, decide_eq_true, decide_eq_false, beqT, beqF, bneT, bneF] <;> rfl); (exact hcomp _ (by simp only [go_sem])); (first | exact ho_arr | exact ho_arr2 | exact ho_map | exact ho_app (by first | omega | (simp; done) | (simp; omega)) | exact ho_app2 (by first | omega | (simp; done) | (simp; omega))); (try simp only [go_sem]))
  clear hcomp
  repeat' (first | (refine go ⟨?_⟩) | (fail) | ((first | (refine bsp ?_ ?_) | (refine csp ?_ ?_)); all_goals (intro hb; (fail_if_success (cases hb; done)); (try simp only [decide_eq_true_eq, decide_eq_false_iff_not, beq_iff_eq, bne_iff_ne, ne_eq, beq_eq_false_iff_ne, bne_eq_false_iff_eq, Bool.not_eq_true', Bool.not_eq_false', Bool.and_eq_true, Bool.or_eq_true, Decidable.not_not] at hb); (try simp only [go_sem]))))
  have hshl : IntKind.wrap .i64 (1 * 2 ^ min cost.length 64) = ((2 ^ cost.length : Nat) : Int) := shlI (n := cost.length) (by omega)
  simp only [hshl]
  have hlN : leastN ms cost = (lfold ms cost (2 ^ cost.length)).1 := rfl
  rw [hlN]
  have hpr : ∀ n, n < 2 ^ cost.length → In cost.length (ints (bitsN n)) := fun n hn => by
    rw [bitsN_small (by omega) hn]; exact subsetS_in n _
  have hprh := Lib.hid hpr
  have hdsh := Lib.hid hds
  clear hshl hlN hpr hds
  generalize hKd : 2 ^ cost.length = K at *
  clear hKd
  generalize dedupA (sortN ms) = ds at *
  generalize (Ent.arr (if ms.length = 0 then none else some (67, 1)) false ms.length (compC (sortN ms))) = E3
  generalize Ent.cells [D.v (SL VU ms)] = E2
  refine c_loop (fun m s => ∃ (n : Nat) (s0 : LS) (js : List Ent), (n ≤ K ∧ m = K - n ∧ s0 = lfold ms cost n) ∧ (s.env.length = 43 ∧ s.sto = sto ++ .cells [.v (SL VU ms), .v (LI cost)] :: E2 :: E3 :: js ∧ s.env[1]? = some (.ptr sto.length 0) ∧ s.env[3]? = some (.v (SL VU ds)) ∧ s.env[4]? = some (.v (VU s0.1)) ∧ s.env[5]? = some (.v (VI s0.2.1)) ∧ s.env[6]? = some (.v (.bool s0.2.2)) ∧ s.env[18]? = some (.v (VI K)) ∧ s.env[19]? = some (.v (VI n)))) (.refl _) ⟨0, _, [], ⟨by omega, rfl, rfl⟩, rfl, rfl, ?_, ?_, ?_, ?_, ?_, ?_, ?_⟩ ?_
  all_goals first | rfl | skip
  rintro m s ⟨n, s0, js, ⟨h1, rfl, hs0⟩, hL, hT, k1, k3, k4, k5, k6, k18, k19⟩
  obtain ⟨env, st0⟩ := s; obtain ⟨J, hJ⟩ := listJ hL; rw [show (List.range 43).map J = J 0 :: J 1 :: J 2 :: J 3 :: J 4 :: J 5 :: J 6 :: J 7 :: J 8 :: J 9 :: J 10 :: J 11 :: J 12 :: J 13 :: J 14 :: J 15 :: J 16 :: J 17 :: J 18 :: J 19 :: J 20 :: J 21 :: J 22 :: J 23 :: J 24 :: J 25 :: J 26 :: J 27 :: J 28 :: J 29 :: J 30 :: J 31 :: J 32 :: J 33 :: J 34 :: J 35 :: J 36 :: J 37 :: J 38 :: J 39 :: J 40 :: J 41 :: J 42 :: [] from by kernel_rfl] at hJ; replace k1 := Option.some.inj ((congrArg (·[1]?) hJ).symm.trans k1); replace k3 := Option.some.inj ((congrArg (·[3]?) hJ).symm.trans k3); replace k4 := Option.some.inj ((congrArg (·[4]?) hJ).symm.trans k4); replace k5 := Option.some.inj ((congrArg (·[5]?) hJ).symm.trans k5); replace k6 := Option.some.inj ((congrArg (·[6]?) hJ).symm.trans k6); replace k18 := Option.some.inj ((congrArg (·[18]?) hJ).symm.trans k18); replace k19 := Option.some.inj ((congrArg (·[19]?) hJ).symm.trans k19); rw [k1, k3, k4, k5, k6, k18, k19] at hJ; dsimp only at hJ hT; subst hJ; replace hT := hT.symm; subst hT; clear hL k1 k3 k4 k5 k6 k18 k19
  by_cases hn : n < K
  · have hb0 : s0.1 < 256 := by
      rw [hs0]
      rcases Nat.eq_zero_or_pos n with rfl | h
      · simp [lfold]
      · have := lfold_lt ms cost n h; omega
    have hnx : lfold ms cost (n + 1) = lstep ms cost s0 n := by rw [lfold_succ, hs0]
    have hnxh := Lib.hid hnx
    have hs0h := Lib.hid hs0
    clear hnx hs0
    obtain ⟨best, pr, fd⟩ := s0
    simp only at hb0
    have hlk : (ds.any fun r => decide (r ≠ 0) && decide (r &&& n = 0)) = lacks ms n := lacks_congr hdsh n
    have hdm : ∀ r ∈ ds, r < 18446744073709551616 := fun r hr => hms r ((hdsh r).1 hr)
    have hcf := fun S id (hS : S[id]? = some (.cells [.v (VU n)])) lo2 (hlo2 : lo2 ≤ S.length) => containsFuncU_ev (B := collB) ds (fun r => decide (r ≠ 0) && decide (r &&& n = 0)) 56 [id] (by omega) S lo2 hlo2 (fun x hx => (least1_ev x n (hdm x hx) (by omega) id S lo2 hS).up0)
    have hpp := fun S lo2 hlo2 => (price_ev ms cost n (by omega) hc (hprh n hn) S lo2 hlo2).up0 (B := collB)
    have hbf := fun S lo2 hlo2 => (before_ev n best (priceS cost (ints (bitsN n))) pr (by omega) hb0 S lo2 hlo2).up0 (B := collB)
    rw [hlk] at hcf
    have hstep : lstep ms cost (best, pr, fd) n = if lacks ms n then (best, pr, fd) else if !fd || beforeN n best (priceS cost (ints (bitsN n))) pr then (n, priceS cost (ints (bitsN n)), true) else (best, pr, fd) := rfl
    generalize priceS cost (ints (bitsN n)) = px at *
    generalize beforeN n best px pr = bq at *
    generalize lacks ms n = lk at *
    have hsth := Lib.hid hstep
    clear hstep hlk hdm
    repeat' (first | (refine go ⟨?_⟩) | (first | ((refine call ?_); (refine ⟨_, hcf _ _ (by simp only [go_sem]) _ (by first | omega | (simp; done) | (simp; omega)), ?_⟩); (try simp only [go_sem])) | ((refine call ?_); (refine ⟨_, hpp _ _ (by first | omega | (simp; done) | (simp; omega)), ?_⟩); (try simp only [go_sem])) | ((refine call ?_); (refine ⟨_, hbf _ _ (by first | omega | (simp; done) | (simp; omega)), ?_⟩); (try simp only [go_sem]))) | ((first | (refine bsp ?_ ?_) | (refine csp ?_ ?_)); all_goals (intro hb; (fail_if_success (cases hb; done)); (try simp only [decide_eq_true_eq, decide_eq_false_iff_not, beq_iff_eq, bne_iff_ne, ne_eq, beq_eq_false_iff_ne, bne_eq_false_iff_eq, Bool.not_eq_true', Bool.not_eq_false', Bool.and_eq_true, Bool.or_eq_true, Decidable.not_not] at hb); (try simp only [go_sem]))))
    · have hnx : _ = _ := hnxh
      have hst : _ = _ := hsth
      refine ⟨_, _, ?_, .refl _, n + 1, (best, pr, fd), _, ⟨by omega, rfl, ?_⟩, rfl, rfl, ?_, ?_, ?_, ?_, ?_, ?_, ?_⟩
      · omega
      · rw [hnx, hst]; simp_all
      all_goals rfl
    · have hnx : _ = _ := hnxh
      have hst : _ = _ := hsth
      refine ⟨_, _, ?_, .refl _, n + 1, (n, px, true), _, ⟨by omega, rfl, ?_⟩, rfl, rfl, ?_, ?_, ?_, ?_, ?_, ?_, ?_⟩
      · omega
      · rw [hnx, hst]; simp_all
      all_goals rfl
    · have hnx : _ = _ := hnxh
      have hst : _ = _ := hsth
      refine ⟨_, _, ?_, .refl _, n + 1, (n, px, true), _, ⟨by omega, rfl, ?_⟩, rfl, rfl, ?_, ?_, ?_, ?_, ?_, ?_, ?_⟩
      · omega
      · rw [hnx, hst]; simp_all
      all_goals rfl
    · have hnx : _ = _ := hnxh
      have hst : _ = _ := hsth
      refine ⟨_, _, ?_, .refl _, n + 1, (best, pr, fd), _, ⟨by omega, rfl, ?_⟩, rfl, rfl, ?_, ?_, ?_, ?_, ?_, ?_, ?_⟩
      · omega
      · rw [hnx, hst]; simp_all
      all_goals rfl
  · repeat' (first | (refine go ⟨?_⟩) | (fail) | ((first | (refine bsp ?_ ?_) | (refine csp ?_ ?_)); all_goals (intro hb; (fail_if_success (cases hb; done)); (try simp only [decide_eq_true_eq, decide_eq_false_iff_not, beq_iff_eq, bne_iff_ne, ne_eq, beq_eq_false_iff_ne, bne_eq_false_iff_eq, Bool.not_eq_true', Bool.not_eq_false', Bool.and_eq_true, Bool.or_eq_true, Decidable.not_not] at hb); (try simp only [go_sem]))))
    refine ⟨by first | exact .inr rfl | exact .inl rfl, .inl ⟨[], _, (by dsimp only [Tryd.f33]; exact sv), ?_, by simp⟩⟩
    obtain rfl : n = K := by omega
    rw [hs0]
end Go.Proofs.YtgkhcjdpdgfdbaaDoor
namespace Go.Proofs.YtgkhcjdpdgfdbaaDoor
open Go Go.RowKit

attribute [local irreducible] EvOps EvC
attribute [local go_sem] List.getElem?_toArray
set_option linter.unusedSimpArgs false
set_option linter.unusedVariables false
set_option maxRecDepth 100000
set_option maxHeartbeats 4000000
abbrev mAt (ms : List Nat) (i : Int) : Nat := ms.getD i.toNat 0
/-- What a pack comes to; none: it is no pack. -/
def packN (ms : List Nat) (cost left : List Int) : Nat → Int → Int → List Int → Option Int
  | _, _, sum, [] => some sum
  | used, last, sum, i :: ps => if i ≤ last ∨ i ∉ left ∨ mAt ms i &&& used ≠ 0 then none else packN ms cost left (used ||| mAt ms i) i (sum + cheapS cost (ints (bitsN (mAt ms i)))) ps
mutual
def showsN (ms : List Nat) (cost : List Int) (bound : Int) : Crt → Nat → Bool
  | .mk r p k, b =>
    if k.length = 0 then (match packN ms cost (ints (leftN ms b)) 0 (-1) (priceS cost (ints (bitsN b))) p with | some s => decide (s ≥ bound) | none => false)
    else decide (p.length = 0) && decide (r ∈ ints (leftN ms b)) && decide ((bitsN (mAt ms r)).length = k.length) && showsLN ms cost bound k (bitsN (mAt ms r)) b
def showsLN (ms : List Nat) (cost : List Int) (bound : Int) : List Crt → List Nat → Nat → Bool
  | c :: cs, t :: l, b => showsN ms cost bound c (b ||| 2 ^ t) && showsLN ms cost bound cs l b
  | _, _, _ => true
end
theorem packN_drop {ms : List Nat} {cost left : List Int} {u : Nat} {la s : Int} {p : List Int} {i : Nat} (h : i < p.length) : packN ms cost left u la s (p.drop i) = if p[i] ≤ la ∨ p[i] ∉ left ∨ mAt ms p[i] &&& u ≠ 0 then none else packN ms cost left (u ||| mAt ms p[i]) p[i] (s + cheapS cost (ints (bitsN (mAt ms p[i])))) (p.drop (i + 1)) := by
  rw [drop_cons h, packN]
theorem mem_leftN {ms : List Nat} {b : Nat} {i : Int} (h : i ∈ ints (leftN ms b)) : 0 ≤ i ∧ i.toNat < ms.length := by
  obtain ⟨j, hj, rfl⟩ := List.mem_map.1 h
  have := List.mem_range.1 (List.mem_filter.1 hj).1
  omega
theorem mAt_eq {ms : List Nat} {i : Int} (h : i.toNat < ms.length) : ms[i.toNat] = mAt ms i := by simp [mAt, List.getD, h]
/-- Rows' sets as they may be. -/
def MsOK (ms : List Nat) (cost : List Int) : Prop := ms.length < 1000000 ∧ ∀ r ∈ ms, r < 2 ^ cost.length
theorem bitsN_in {b n : Nat} (hb : b < 2 ^ n) (hn : n ≤ 64) : In n (ints (bitsN b)) := by
  rw [bitsN_small hn hb]; exact subsetS_in b n
theorem pow16 {cost : List Int} (hc : CostOK cost) : 2 ^ cost.length ≤ 65536 := Nat.pow_le_pow_right (n := 2) (by omega) hc.1
theorem mAt_lt {ms : List Nat} {cost : List Int} (h : MsOK ms cost) (i : Int) : mAt ms i < 2 ^ cost.length := by
  by_cases hi : i.toNat < ms.length
  · rw [← mAt_eq hi]; exact h.2 _ (List.getElem_mem hi)
  · have : mAt ms i = 0 := by simp [mAt, List.getD, Nat.le_of_not_lt hi]
    rw [this]; exact Nat.two_pow_pos _
theorem shows_leaf (ms : List Nat) (cost : List Int) (bound : Int) (hm : MsOK ms cost) (hc : CostOK cost) (r : Int) (p : List Int) (k : List Crt) (hk : k.length = 0) (hp : p.length < 1000000) (b : Nat) (hb : b < 2 ^ cost.length) (sto : Sto) (lo : Nat) (hlo : lo ≤ sto.length) : CallEv Tryd.prog tab B0 45 [.v (PV ms cost), .v (CV (.mk r p k)), .v (VU b), .v (VI bound)] sto lo (.v (.bool (showsN ms cost bound (.mk r p k) b))) sto := by
  have h16 := pow16 hc
  have hms : ∀ r ∈ ms, r < 18446744073709551616 := fun r hr => by have := hm.2 r hr; omega
  have hlf := fun sto lo hlo => left_ev ms cost b (by omega) hm.1 hms sto lo hlo
  have hpx := fun sto lo hlo => price_ev ms cost b (by omega) hc (bitsN_in hb (by have := hc.1; omega)) sto lo hlo
  have hpr := priceS_bound hc (ints (bitsN b))
  have hbl : (ints (bitsN b)).length ≤ 64 := by simpa using subsetS_length b 64
  have hll : (ints (leftN ms b)).length < 1000000 := by have := leftN_length ms b; have := hm.1; simp; omega
  have hmem : ∀ i ∈ ints (leftN ms b), 0 ≤ i ∧ i.toNat < ms.length := fun i => mem_leftN
  have hS : showsN ms cost bound (.mk r p k) b = (match packN ms cost (ints (leftN ms b)) 0 (-1) (priceS cost (ints (bitsN b))) p with | some s => decide (s ≥ bound) | none => false) := by simp [showsN, hk]
  rw [hS]
  clear hS hms
  generalize ints (leftN ms b) = left at *
  generalize priceS cost (ints (bitsN b)) = px at *
  refine CallEv.intro ⟨_, _, [], Tryd.func45, rfl, by decide, ?_⟩; simp only [go_sem, Tryd.ntmps45]
  repeat' (first | (refine go ⟨?_⟩) | (first | ((refine call ?_); (refine ⟨_, hlf _ _ (by first | omega | (simp; done) | (simp; omega)), ?_⟩); (try simp only [go_sem])) | ((refine call ?_); (refine ⟨_, hpx _ _ (by first | omega | (simp; done) | (simp; omega)), ?_⟩); (try simp only [go_sem]))) | ((first | (refine bsp ?_ ?_) | (refine csp ?_ ?_)); all_goals (intro hb; (fail_if_success (cases hb; done)); (try simp only [decide_eq_true_eq, decide_eq_false_iff_not, beq_iff_eq, bne_iff_ne, ne_eq, beq_eq_false_iff_ne, bne_eq_false_iff_eq, Bool.not_eq_true', Bool.not_eq_false', Bool.and_eq_true, Bool.or_eq_true, Decidable.not_not] at hb); (try simp only [go_sem]))))
  refine c_loop (fun m s => ∃ (i u : Nat) (acc la : Int), (i ≤ p.length ∧ m = p.length - i ∧ u < 18446744073709551616 ∧ 0 ≤ acc ∧ acc ≤ (64 + i) * 1048576 ∧ Hid (packN ms cost left 0 (-1) px p = packN ms cost left u la acc (p.drop i))) ∧ (s.env.length = 120 ∧ s.sto = sto ++ [.cells [.v (SL VU ms), .v (LI cost)], .cells [.v (VI r), .v (LI p), .v (.sl k.length (cellsCs k))]] ∧ s.env[2]? = some (.v (VU b)) ∧ s.env[3]? = some (.v (VI bound)) ∧ s.env[4]? = some (.ptr sto.length 0) ∧ s.env[5]? = some (.ptr (sto.length + 1) 0) ∧ s.env[9]? = some (.v (LI left)) ∧ s.env[10]? = some (.v (VU u)) ∧ s.env[11]? = some (.v (VI acc)) ∧ s.env[12]? = some (.v (VI la)) ∧ s.env[29]? = some (.v (LI p)) ∧ s.env[30]? = some (.v (VI p.length)) ∧ s.env[31]? = some (.v (VI i)))) (.refl _) ⟨0, 0, px, -1, ⟨by omega, rfl, by omega, by omega, by omega, Lib.hid rfl⟩, rfl, rfl, ?_, ?_, ?_, ?_, ?_, ?_, ?_, ?_, ?_, ?_, ?_⟩ ?_
  all_goals first | rfl | skip
  rintro m s ⟨i, u, acc, la, ⟨h1, rfl, hu, ha1, ha2, h3⟩, hL, hT, k2, k3, k4, k5, k9, k10, k11, k12, k29, k30, k31⟩
  obtain ⟨env, st0⟩ := s; obtain ⟨J, hJ⟩ := listJ hL; rw [show (List.range 120).map J = J 0 :: J 1 :: J 2 :: J 3 :: J 4 :: J 5 :: J 6 :: J 7 :: J 8 :: J 9 :: J 10 :: J 11 :: J 12 :: J 13 :: J 14 :: J 15 :: J 16 :: J 17 :: J 18 :: J 19 :: J 20 :: J 21 :: J 22 :: J 23 :: J 24 :: J 25 :: J 26 :: J 27 :: J 28 :: J 29 :: J 30 :: J 31 :: J 32 :: J 33 :: J 34 :: J 35 :: J 36 :: J 37 :: J 38 :: J 39 :: J 40 :: J 41 :: J 42 :: J 43 :: J 44 :: J 45 :: J 46 :: J 47 :: J 48 :: J 49 :: J 50 :: J 51 :: J 52 :: J 53 :: J 54 :: J 55 :: J 56 :: J 57 :: J 58 :: J 59 :: J 60 :: J 61 :: J 62 :: J 63 :: J 64 :: J 65 :: J 66 :: J 67 :: J 68 :: J 69 :: J 70 :: J 71 :: J 72 :: J 73 :: J 74 :: J 75 :: J 76 :: J 77 :: J 78 :: J 79 :: J 80 :: J 81 :: J 82 :: J 83 :: J 84 :: J 85 :: J 86 :: J 87 :: J 88 :: J 89 :: J 90 :: J 91 :: J 92 :: J 93 :: J 94 :: J 95 :: J 96 :: J 97 :: J 98 :: J 99 :: J 100 :: J 101 :: J 102 :: J 103 :: J 104 :: J 105 :: J 106 :: J 107 :: J 108 :: J 109 :: J 110 :: J 111 :: J 112 :: J 113 :: J 114 :: J 115 :: J 116 :: J 117 :: J 118 :: J 119 :: [] from by kernel_rfl] at hJ; replace k2 := Option.some.inj ((congrArg (·[2]?) hJ).symm.trans k2); replace k3 := Option.some.inj ((congrArg (·[3]?) hJ).symm.trans k3); replace k4 := Option.some.inj ((congrArg (·[4]?) hJ).symm.trans k4); replace k5 := Option.some.inj ((congrArg (·[5]?) hJ).symm.trans k5); replace k9 := Option.some.inj ((congrArg (·[9]?) hJ).symm.trans k9); replace k10 := Option.some.inj ((congrArg (·[10]?) hJ).symm.trans k10); replace k11 := Option.some.inj ((congrArg (·[11]?) hJ).symm.trans k11); replace k12 := Option.some.inj ((congrArg (·[12]?) hJ).symm.trans k12); replace k29 := Option.some.inj ((congrArg (·[29]?) hJ).symm.trans k29); replace k30 := Option.some.inj ((congrArg (·[30]?) hJ).symm.trans k30); replace k31 := Option.some.inj ((congrArg (·[31]?) hJ).symm.trans k31); rw [k2, k3, k4, k5, k9, k10, k11, k12, k29, k30, k31] at hJ; dsimp only at hJ hT; subst hJ; replace hT := hT.symm; subst hT; clear hL k2 k3 k4 k5 k9 k10 k11 k12 k29 k30 k31
  clear hlf hpx
  have h3 : _ = _ := h3
  by_cases hi : i < p.length
  · rw [packN_drop hi] at h3
    have hh3 := Lib.hid h3
    clear h3
    have hcn := fun sto lo hlo => containsI_ev left p[i] (by omega) sto lo hlo
    by_cases hq : p[i] ∈ left
    · obtain ⟨hq0, hq1⟩ := hmem _ hq
      have hra := mAt_eq hq1
      have hml := mAt_lt hm p[i]
      have hcb := cheapS_bound hc (ints (bitsN (mAt ms p[i])))
      have hor : u ||| mAt ms p[i] < 18446744073709551616 := Nat.or_lt_two_pow (n := 64) hu (by omega)
      have hch := fun sto lo hlo => cheapest_ev ms cost (mAt ms p[i]) (by omega) (bitsN_in hml (by have := hc.1; omega)) sto lo hlo
      rw [← hra] at hml hch hor
      have hqh := Lib.hid hq
      rw [decide_eq_true hq] at hcn
      rw [← hra] at hcb
      clear hq
      have hrah := Lib.hid hra
      clear hra hpr hm hc hmem
      generalize hcq : cheapS cost (ints (bitsN ms[p[i].toNat])) = cq at *
      have hcqh := Lib.hid hcq
      clear hcq
      repeat' (first | (refine go ⟨?_⟩) | (first | ((refine call ?_); (refine ⟨_, hcn _ _ (by first | omega | (simp; done) | (simp; omega)), ?_⟩); (try simp only [go_sem])) | ((refine call ?_); (refine ⟨_, hch _ _ (by first | omega | (simp; done) | (simp; omega)), ?_⟩); (try simp only [go_sem]))) | ((first | (refine bsp ?_ ?_) | (refine csp ?_ ?_)); all_goals (intro hb; (fail_if_success (cases hb; done)); (try simp only [decide_eq_true_eq, decide_eq_false_iff_not, beq_iff_eq, bne_iff_ne, ne_eq, beq_eq_false_iff_ne, bne_eq_false_iff_eq, Bool.not_eq_true', Bool.not_eq_false', Bool.and_eq_true, Bool.or_eq_true, Decidable.not_not] at hb); (try simp only [go_sem]))))
      · refine ⟨by first | exact .inr rfl | exact .inl rfl, .inl ⟨[], _, (by dsimp only [Tryd.f45]; exact sv), ?_, by simp⟩⟩
        have h4 : _ = _ := h3
        have h5 : _ = _ := hh3
        rw [h5, if_pos (.inl hb)]
      · refine ⟨by first | exact .inr rfl | exact .inl rfl, .inl ⟨[], _, (by dsimp only [Tryd.f45]; exact sv), ?_, by simp⟩⟩
        have h4 : _ = _ := h3
        have h5 : _ = _ := hh3
        have h6 : _ = _ := hrah
        rw [h5, if_pos (.inr (.inr (by rw [← h6]; omega)))]
      · rename_i hb1 hb2
        have h5 : _ = _ := hh3
        have h6 : _ = _ := hrah
        have h7 : _ = _ := hcqh
        have hng : ¬ (p[i] ≤ la ∨ p[i] ∉ left ∨ mAt ms p[i] &&& u ≠ 0) := by
          rw [← h6]
          rintro (h | h | h)
          · omega
          · exact h hqh
          · omega
        rw [if_neg hng, ← h6, h7] at h5
        refine ⟨_, _, ?_, .refl _, i + 1, _, _, _, ⟨by omega, rfl, hor, ?_, ?_, Lib.hid h5⟩, rfl, rfl, ?_, ?_, ?_, ?_, ?_, ?_, ?_, ?_, ?_, ?_, ?_⟩
        · omega
        · omega
        · omega
        all_goals rfl
    · have hqh := Lib.hid hq
      rw [decide_eq_false hq] at hcn
      repeat' (first | (refine go ⟨?_⟩) | (((refine call ?_); (refine ⟨_, hcn _ _ (by first | omega | (simp; done) | (simp; omega)), ?_⟩); (try simp only [go_sem]))) | ((first | (refine bsp ?_ ?_) | (refine csp ?_ ?_)); all_goals (intro hb; (fail_if_success (cases hb; done)); (try simp only [decide_eq_true_eq, decide_eq_false_iff_not, beq_iff_eq, bne_iff_ne, ne_eq, beq_eq_false_iff_ne, bne_eq_false_iff_eq, Bool.not_eq_true', Bool.not_eq_false', Bool.and_eq_true, Bool.or_eq_true, Decidable.not_not] at hb); (try simp only [go_sem]))))
      all_goals (refine ⟨by first | exact .inr rfl | exact .inl rfl, .inl ⟨[], _, (by dsimp only [Tryd.f45]; exact sv), ?_, by simp⟩⟩)
      all_goals
        have h4 : _ = _ := h3
        have h5 : _ = _ := hh3
        rw [h5, if_pos (.inr (.inl hqh))]
  · repeat' (first | (refine go ⟨?_⟩) | (fail) | ((first | (refine bsp ?_ ?_) | (refine csp ?_ ?_)); all_goals (intro hb; (fail_if_success (cases hb; done)); (try simp only [decide_eq_true_eq, decide_eq_false_iff_not, beq_iff_eq, bne_iff_ne, ne_eq, beq_eq_false_iff_ne, bne_eq_false_iff_eq, Bool.not_eq_true', Bool.not_eq_false', Bool.and_eq_true, Bool.or_eq_true, Decidable.not_not] at hb); (try simp only [go_sem]))))
    refine ⟨by first | exact .inr rfl | exact .inl rfl, .inl ⟨[], _, (by dsimp only [Tryd.f45]; exact sv), ?_, by simp⟩⟩
    rw [h3, List.drop_of_length_le (by omega), packN]
end Go.Proofs.YtgkhcjdpdgfdbaaDoor
namespace Go.Proofs.YtgkhcjdpdgfdbaaDoor
open Go Go.RowKit

attribute [local irreducible] EvOps EvC
set_option linter.unusedSimpArgs false
set_option linter.unusedVariables false
set_option maxRecDepth 100000
theorem has_ev (xs : List Int) (x : Int) (hx : xs.length < 4611686018427387904) (sto : Sto) (lo : Nat) (hlo : lo ≤ sto.length) : CallEv Tryd.prog tab B0 61 [.v (LI xs), .v (VI x)] sto lo (.v (.bool (decide (x ∈ xs)))) sto := by
  refine CallEv.intro ⟨_, _, [], Tryd.func61, rfl, by decide, ?_⟩; simp only [go_sem, Tryd.ntmps61]
  (try refine go ⟨?_⟩)
  refine c_loop (fun m s => ∃ i : Nat, (i ≤ xs.length ∧ m = xs.length - i ∧ x ∉ xs.take i) ∧ (s.env.length = 18 ∧ s.sto = sto ∧ s.env[0]? = some (.v (LI xs)) ∧ s.env[1]? = some (.v (VI x)) ∧ s.env[5]? = some (.v (VI i)))) (.refl _) ⟨0, ⟨by omega, rfl, by simp⟩, rfl, rfl, ?_, ?_, ?_⟩ ?_
  all_goals first | rfl | skip
  rintro m s ⟨i, ⟨h1, rfl, h3⟩, hL, hT, k0, k1, k5⟩
  obtain ⟨env, st0⟩ := s; obtain ⟨J, hJ⟩ := listJ hL; rw [show (List.range 18).map J = J 0 :: J 1 :: J 2 :: J 3 :: J 4 :: J 5 :: J 6 :: J 7 :: J 8 :: J 9 :: J 10 :: J 11 :: J 12 :: J 13 :: J 14 :: J 15 :: J 16 :: J 17 :: [] from by kernel_rfl] at hJ; replace k0 := Option.some.inj ((congrArg (·[0]?) hJ).symm.trans k0); replace k1 := Option.some.inj ((congrArg (·[1]?) hJ).symm.trans k1); replace k5 := Option.some.inj ((congrArg (·[5]?) hJ).symm.trans k5); rw [k0, k1, k5] at hJ; dsimp only at hJ hT; subst hJ; replace hT := hT.symm; subst hT; clear hL k0 k1 k5
  (try refine go ⟨?_⟩)
  refine c_cond sv (fun hb => ?_) (fun hb => ?_)
  · simp only [decide_eq_true_eq] at hb
    (try refine go ⟨?_⟩)
    refine c_cond sv (fun hb => ?_) (fun hb => ?_)
    · (try refine go ⟨?_⟩)
      refine ⟨by first | exact .inr rfl | exact .inl rfl, .inl ⟨[], _, (by dsimp only [Tryd.f61]; exact sv), ?_, by simp⟩⟩
      rename_i h
      have : xs[i] = x := by simpa using hb
      subst this
      simp
    · (try refine go ⟨?_⟩)
      refine ⟨_, _, ?_, .refl _, i + 1, ⟨?_, rfl, ?_⟩, rfl, rfl, ?_, ?_, ?_⟩
      · omega
      · omega
      · simp at hb
        rw [take_succ (by omega)]
        simp only [List.mem_append, List.mem_singleton, h3, false_or]; exact fun h => hb h.symm
      all_goals rfl
  · simp only [decide_eq_false_iff_not] at hb
    (try refine go ⟨?_⟩)
    refine ⟨by first | exact .inr rfl | exact .inl rfl, .inl ⟨[], _, (by dsimp only [Tryd.f61]; exact sv), ?_, by simp⟩⟩
    rw [List.take_of_length_le (by omega)] at h3
    simp [h3]
theorem meets_ev (a b : List Int) (ha : a.length < 4611686018427387904) (hb' : b.length < 4611686018427387904) (sto : Sto) (lo : Nat) (hlo : lo ≤ sto.length) : CallEv Tryd.prog tab B0 49 [.v (LI a), .v (LI b)] sto lo (.v (.bool (meetsS a b))) sto := by
  refine CallEv.intro ⟨_, _, [], Tryd.func49, rfl, by decide, ?_⟩; simp only [go_sem, Tryd.ntmps49]
  (try refine go ⟨?_⟩)
  refine c_loop (fun m s => ∃ i : Nat, (i ≤ a.length ∧ m = a.length - i ∧ (a.take i).any (· ∈ b) = false) ∧ (s.env.length = 18 ∧ s.sto = sto ∧ s.env[0]? = some (.v (LI a)) ∧ s.env[1]? = some (.v (LI b)) ∧ s.env[5]? = some (.v (VI i)))) (.refl _) ⟨0, ⟨by omega, rfl, by simp⟩, rfl, rfl, ?_, ?_, ?_⟩ ?_
  all_goals first | rfl | skip
  rintro m s ⟨i, ⟨h1, rfl, h3⟩, hL, hT, k0, k1, k5⟩
  obtain ⟨env, st0⟩ := s; obtain ⟨J, hJ⟩ := listJ hL; rw [show (List.range 18).map J = J 0 :: J 1 :: J 2 :: J 3 :: J 4 :: J 5 :: J 6 :: J 7 :: J 8 :: J 9 :: J 10 :: J 11 :: J 12 :: J 13 :: J 14 :: J 15 :: J 16 :: J 17 :: [] from by kernel_rfl] at hJ; replace k0 := Option.some.inj ((congrArg (·[0]?) hJ).symm.trans k0); replace k1 := Option.some.inj ((congrArg (·[1]?) hJ).symm.trans k1); replace k5 := Option.some.inj ((congrArg (·[5]?) hJ).symm.trans k5); rw [k0, k1, k5] at hJ; dsimp only at hJ hT; subst hJ; replace hT := hT.symm; subst hT; clear hL k0 k1 k5
  (try refine go ⟨?_⟩)
  refine c_cond sv (fun hb => ?_) (fun hb => ?_)
  · simp only [decide_eq_true_eq] at hb
    (try refine go ⟨?_⟩)
    ((refine call ?_); (refine ⟨_, has_ev _ _ (by omega) _ _ (by first | omega | (simp; done) | (simp; omega)), ?_⟩); (try simp only [go_sem]))
    (try refine go ⟨?_⟩)
    refine c_cond sv (fun hb => ?_) (fun hb => ?_)
    · (try refine go ⟨?_⟩)
      refine ⟨by first | exact .inr rfl | exact .inl rfl, .inl ⟨[], _, (by dsimp only [Tryd.f49]; exact sv), ?_, by simp⟩⟩
      simp only [decide_eq_true_eq] at hb
      have : meetsS a b = true := List.any_eq_true.2 ⟨a[i], List.getElem_mem (by omega), by simpa using hb⟩
      rw [this]
    · (try refine go ⟨?_⟩)
      refine ⟨_, _, ?_, .refl _, i + 1, ⟨?_, rfl, ?_⟩, rfl, rfl, ?_, ?_, ?_⟩
      · omega
      · omega
      · rw [take_succ (by omega), List.any_append, h3]
        simpa using hb
      all_goals rfl
  · simp only [decide_eq_false_iff_not] at hb
    (try refine go ⟨?_⟩)
    refine ⟨by first | exact .inr rfl | exact .inl rfl, .inl ⟨[], _, (by dsimp only [Tryd.f49]; exact sv), ?_, by simp⟩⟩
    rw [List.take_of_length_le (by omega)] at h3
    rw [meetsS, h3]
theorem refLeft_ev (rows : List (List Int)) (ts : List Int) (hr : rows.length < 1000000) (hrr : ∀ r ∈ rows, r.length < 1000000) (ht : ts.length < 4611686018427387904) (sto : Sto) (lo : Nat) (hlo : lo ≤ sto.length) : CallEv Tryd.prog tab B0 30 [.v (LLI rows), .v (LI ts)] sto lo (.v (LI (ints (leftS rows ts)))) sto := by
  refine CallEv.intro ⟨_, _, [], Tryd.func30, rfl, by decide, ?_⟩; simp only [go_sem, Tryd.ntmps30]
  (try refine go ⟨?_⟩)
  refine c_loop (fun m s => ∃ i n cs es, (i ≤ rows.length ∧ m = rows.length - i ∧ n = ((List.range i).filter (leftB rows ts)).length ∧ cs = (ints ((List.range i).filter (leftB rows ts))).map VI ∧ (es = none ∨ es = some (3, 1))) ∧ (s.env.length = 33 ∧ s.sto = sto ++ [.arr es false n cs] ∧ s.env[0]? = some (.v (LLI rows)) ∧ s.env[1]? = some (.v (LI ts)) ∧ s.env[5]? = some (.arr sto.length n) ∧ s.env[6]? = some (.v (VI i)))) (.adopt _ 5 false rfl hlo) ⟨0, _, _, _, ⟨by omega, rfl, rfl, rfl, .inl rfl⟩, rfl, rfl, ?_, ?_, ?_, ?_⟩ ?_
  all_goals first | rfl | skip
  rintro m s ⟨i, n, cs, es, ⟨h1, rfl, rfl, rfl, h3⟩, hL, hT, k0, k1, k5, k6⟩
  obtain ⟨env, st0⟩ := s; obtain ⟨J, hJ⟩ := listJ hL; rw [show (List.range 33).map J = J 0 :: J 1 :: J 2 :: J 3 :: J 4 :: J 5 :: J 6 :: J 7 :: J 8 :: J 9 :: J 10 :: J 11 :: J 12 :: J 13 :: J 14 :: J 15 :: J 16 :: J 17 :: J 18 :: J 19 :: J 20 :: J 21 :: J 22 :: J 23 :: J 24 :: J 25 :: J 26 :: J 27 :: J 28 :: J 29 :: J 30 :: J 31 :: J 32 :: [] from by kernel_rfl] at hJ; replace k0 := Option.some.inj ((congrArg (·[0]?) hJ).symm.trans k0); replace k1 := Option.some.inj ((congrArg (·[1]?) hJ).symm.trans k1); replace k5 := Option.some.inj ((congrArg (·[5]?) hJ).symm.trans k5); replace k6 := Option.some.inj ((congrArg (·[6]?) hJ).symm.trans k6); rw [k0, k1, k5, k6] at hJ; dsimp only at hJ hT; subst hJ; replace hT := hT.symm; subst hT; clear hL k0 k1 k5 k6
  have hn : ((List.range i).filter (leftB rows ts)).length ≤ i := by simpa using List.length_filter_le (leftB rows ts) (List.range i)
  by_cases hb : i < rows.length
  · have hri := hrr rows[i] (List.getElem_mem hb)
    have hg : rows.getD i [] = rows[i] := by simp [List.getD, hb]
    by_cases hp : 0 < rows[i].length
    · (try refine go ⟨?_⟩)
      ((refine call ?_); (refine ⟨_, meets_ev _ _ (by omega) (by omega) _ _ (by first | omega | (simp; done) | (simp; omega)), ?_⟩); (try simp only [go_sem]))
      (try refine go ⟨?_⟩)
      cases hq : meetsS rows[i] ts
      · have hl : leftB rows ts i = true := by simp [leftB, hg, hp, hq, -List.getD_eq_getElem?_getD]
        simp only [hq, Bool.not_false, Bool.not_true]
        (try refine go ⟨?_⟩)
        refine ⟨_, _, ?_, .refl _, i + 1, _, _, _, ⟨by omega, rfl, ?_, ?_, .inr rfl⟩, rfl, rfl, ?_, ?_, ?_, ?_⟩
        · omega
        · rw [List.range_succ, List.filter_append]; simp [hl]
        · rw [List.range_succ, List.filter_append]; simp [hl]
        all_goals rfl
      · have hl : leftB rows ts i = false := by simp [leftB, hg, hp, hq, -List.getD_eq_getElem?_getD]
        simp only [hq, Bool.not_false, Bool.not_true]
        (try refine go ⟨?_⟩)
        refine ⟨_, _, ?_, .refl _, i + 1, _, _, _, ⟨by omega, rfl, ?_, ?_, h3⟩, rfl, rfl, ?_, ?_, ?_, ?_⟩
        · omega
        · rw [List.range_succ, List.filter_append]; simp [hl]
        · rw [List.range_succ, List.filter_append]; simp [hl]
        all_goals rfl
    · have hl : leftB rows ts i = false := by simp [leftB, hg, hp, -List.getD_eq_getElem?_getD]
      (try refine go ⟨?_⟩)
      refine ⟨_, _, ?_, .refl _, i + 1, _, _, _, ⟨by omega, rfl, ?_, ?_, h3⟩, rfl, rfl, ?_, ?_, ?_, ?_⟩
      · omega
      · rw [List.range_succ, List.filter_append]; simp [hl]
      · rw [List.range_succ, List.filter_append]; simp [hl]
      all_goals rfl
  · (try refine go ⟨?_⟩)
    refine ⟨by first | exact .inr rfl | exact .inl rfl, .inl ⟨[], _, (by dsimp only [Tryd.f30]; exact sv), ?_, by simp⟩⟩
    obtain rfl : i = rows.length := by omega
    rw [LI_ints]; rfl
end Go.Proofs.YtgkhcjdpdgfdbaaDoor
namespace Go.Proofs.YtgkhcjdpdgfdbaaDoor
open Go Go.RowKit

attribute [local irreducible] EvOps EvC
set_option linter.unusedSimpArgs false
set_option linter.unusedVariables false
set_option maxRecDepth 100000
theorem refPrice_ev (ts cost : List Int) (hc : CostOK cost) (hts : In cost.length ts) (ht : ts.length < 1000000) (sto : Sto) (lo : Nat) (hlo : lo ≤ sto.length) : CallEv Tryd.prog tab B0 17 [.v (LI ts), .v (LI cost)] sto lo (.v (VI (priceS cost ts))) sto := by
  refine CallEv.intro ⟨_, _, [], Tryd.func17, rfl, by decide, ?_⟩; simp only [go_sem, Tryd.ntmps17]
  (try refine go ⟨?_⟩)
  refine c_loop (fun m s => ∃ (i : Nat) (acc : Int), (i ≤ ts.length ∧ m = ts.length - i ∧ acc = priceS cost (ts.take i)) ∧ (s.env.length = 23 ∧ s.sto = sto ∧ s.env[0]? = some (.v (LI ts)) ∧ s.env[1]? = some (.v (LI cost)) ∧ s.env[5]? = some (.v (VI acc)) ∧ s.env[6]? = some (.v (VI i)))) (.refl _) ⟨0, _, ⟨by omega, rfl, rfl⟩, rfl, rfl, ?_, ?_, ?_, ?_⟩ ?_
  all_goals first | rfl | skip
  rintro m s ⟨i, acc, ⟨h1, rfl, rfl⟩, hL, hT, k0, k1, k5, k6⟩
  obtain ⟨env, st0⟩ := s; obtain ⟨J, hJ⟩ := listJ hL; rw [show (List.range 23).map J = J 0 :: J 1 :: J 2 :: J 3 :: J 4 :: J 5 :: J 6 :: J 7 :: J 8 :: J 9 :: J 10 :: J 11 :: J 12 :: J 13 :: J 14 :: J 15 :: J 16 :: J 17 :: J 18 :: J 19 :: J 20 :: J 21 :: J 22 :: [] from by kernel_rfl] at hJ; replace k0 := Option.some.inj ((congrArg (·[0]?) hJ).symm.trans k0); replace k1 := Option.some.inj ((congrArg (·[1]?) hJ).symm.trans k1); replace k5 := Option.some.inj ((congrArg (·[5]?) hJ).symm.trans k5); replace k6 := Option.some.inj ((congrArg (·[6]?) hJ).symm.trans k6); rw [k0, k1, k5, k6] at hJ; dsimp only at hJ hT; subst hJ; replace hT := hT.symm; subst hT; clear hL k0 k1 k5 k6
  by_cases hb : i < ts.length
  · have h2 := hts ts[i] (List.getElem_mem hb)
    have h3 := priceS_bound hc (ts.take i)
    have h4 := cAt_bound hc ts[i]
    rw [List.length_take_of_le h1] at h3
    have h5 : priceS cost (ts.take (i + 1)) = priceS cost (ts.take i) + cAt cost ts[i] := by rw [take_succ hb, priceS_append, priceS_cons, priceS_nil]; omega
    have h6 := cAt_eq (cost := cost) (t := ts[i]) (by omega)
    (try refine go ⟨?_⟩)
    refine ⟨_, _, ?_, .refl _, i + 1, _, ⟨by omega, rfl, rfl⟩, rfl, rfl, ?_, ?_, ?_, ?_⟩
    · omega
    · rfl
    · rfl
    · rw [h5, h6]; rfl
    · rfl
  · (try refine go ⟨?_⟩)
    refine ⟨by first | exact .inr rfl | exact .inl rfl, .inl ⟨[], _, (by dsimp only [Tryd.f17]; exact sv), ?_, by simp⟩⟩
    rw [List.take_of_length_le (by omega)]
theorem refCheap_ev (ts cost : List Int) (hts : In cost.length ts) (ht : ts.length < 1000000) (sto : Sto) (lo : Nat) (hlo : lo ≤ sto.length) : CallEv Tryd.prog tab B0 63 [.v (LI ts), .v (LI cost)] sto lo (.v (VI (cheapS cost ts))) sto := by
  refine CallEv.intro ⟨_, _, [], Tryd.func63, rfl, by decide, ?_⟩; simp only [go_sem, Tryd.ntmps63]
  (try refine go ⟨?_⟩)
  refine c_loop (fun m s => ∃ (i : Nat) (acc : Int), (i ≤ ts.length ∧ m = ts.length - i ∧ acc = cheapS cost (ts.take i)) ∧ (s.env.length = 23 ∧ s.sto = sto ∧ s.env[0]? = some (.v (LI ts)) ∧ s.env[1]? = some (.v (LI cost)) ∧ s.env[5]? = some (.v (VI acc)) ∧ s.env[6]? = some (.v (VI i)))) (.refl _) ⟨0, _, ⟨by omega, rfl, rfl⟩, rfl, rfl, ?_, ?_, ?_, ?_⟩ ?_
  all_goals first | rfl | skip
  rintro m s ⟨i, acc, ⟨h1, rfl, rfl⟩, hL, hT, k0, k1, k5, k6⟩
  obtain ⟨env, st0⟩ := s; obtain ⟨J, hJ⟩ := listJ hL; rw [show (List.range 23).map J = J 0 :: J 1 :: J 2 :: J 3 :: J 4 :: J 5 :: J 6 :: J 7 :: J 8 :: J 9 :: J 10 :: J 11 :: J 12 :: J 13 :: J 14 :: J 15 :: J 16 :: J 17 :: J 18 :: J 19 :: J 20 :: J 21 :: J 22 :: [] from by kernel_rfl] at hJ; replace k0 := Option.some.inj ((congrArg (·[0]?) hJ).symm.trans k0); replace k1 := Option.some.inj ((congrArg (·[1]?) hJ).symm.trans k1); replace k5 := Option.some.inj ((congrArg (·[5]?) hJ).symm.trans k5); replace k6 := Option.some.inj ((congrArg (·[6]?) hJ).symm.trans k6); rw [k0, k1, k5, k6] at hJ; dsimp only at hJ hT; subst hJ; replace hT := hT.symm; subst hT; clear hL k0 k1 k5 k6
  by_cases hb : i < ts.length
  · have h2 := hts ts[i] (List.getElem_mem hb)
    have h5 : cheapS cost (ts.take (i + 1)) = min (cheapS cost (ts.take i)) (cAt cost ts[i]) := by rw [take_succ hb, cheapS, List.foldl_append]; rfl
    have h6 := cAt_eq (cost := cost) (t := ts[i]) (by omega)
    (try refine go ⟨?_⟩)
    refine ⟨_, _, ?_, .refl _, i + 1, _, ⟨by omega, rfl, rfl⟩, rfl, rfl, ?_, ?_, ?_, ?_⟩
    · omega
    · rfl
    · rfl
    · rw [h5, h6]; show some (D.v (VI _)) = some (D.v (VI _)); congr 3; omega
    · rfl
  · (try refine go ⟨?_⟩)
    refine ⟨by first | exact .inr rfl | exact .inl rfl, .inl ⟨[], _, (by dsimp only [Tryd.f63]; exact sv), ?_, by simp⟩⟩
    rw [List.take_of_length_le (by omega)]
theorem refTests_ev (row : List Int) (ht : row.length < 1000000) (sto : Sto) (lo : Nat) (hlo : lo ≤ sto.length) : CallEv Tryd.prog tab B0 44 [.v (LI row)] sto lo (.v (LI (ints (testsS row)))) sto := by
  refine CallEv.intro ⟨_, _, [], Tryd.func44, rfl, by decide, ?_⟩; simp only [go_sem, Tryd.ntmps44]
  (try refine go ⟨?_⟩)
  refine c_loop (fun m s => ∃ i n cs es, (i ≤ 16 ∧ m = 16 - i ∧ n = ((List.range i).filter fun t : Nat => decide ((t : Int) ∈ row)).length ∧ cs = (ints ((List.range i).filter fun t : Nat => decide ((t : Int) ∈ row))).map VI ∧ (es = none ∨ es = some (3, 1))) ∧ (s.env.length = 17 ∧ s.sto = sto ++ [.arr es false n cs] ∧ s.env[0]? = some (.v (LI row)) ∧ s.env[3]? = some (.arr sto.length n) ∧ s.env[4]? = some (.v (VI i)))) (.adopt _ 3 false rfl hlo) ⟨0, _, _, _, ⟨by omega, rfl, rfl, rfl, .inl rfl⟩, rfl, rfl, ?_, ?_, ?_⟩ ?_
  all_goals first | rfl | skip
  rintro m s ⟨i, n, cs, es, ⟨h1, rfl, rfl, rfl, h3⟩, hL, hT, k0, k3, k4⟩
  obtain ⟨env, st0⟩ := s; obtain ⟨J, hJ⟩ := listJ hL; rw [show (List.range 17).map J = J 0 :: J 1 :: J 2 :: J 3 :: J 4 :: J 5 :: J 6 :: J 7 :: J 8 :: J 9 :: J 10 :: J 11 :: J 12 :: J 13 :: J 14 :: J 15 :: J 16 :: [] from by kernel_rfl] at hJ; replace k0 := Option.some.inj ((congrArg (·[0]?) hJ).symm.trans k0); replace k3 := Option.some.inj ((congrArg (·[3]?) hJ).symm.trans k3); replace k4 := Option.some.inj ((congrArg (·[4]?) hJ).symm.trans k4); rw [k0, k3, k4] at hJ; dsimp only at hJ hT; subst hJ; replace hT := hT.symm; subst hT; clear hL k0 k3 k4
  have hn : ((List.range i).filter fun t : Nat => decide ((t : Int) ∈ row)).length ≤ i := by simpa using List.length_filter_le (fun t : Nat => decide ((t : Int) ∈ row)) (List.range i)
  by_cases hb : i < 16
  · (try refine go ⟨?_⟩)
    ((refine call ?_); (refine ⟨_, has_ev _ _ (by omega) _ _ (by first | omega | (simp; done) | (simp; omega)), ?_⟩); (try simp only [go_sem]))
    (try refine go ⟨?_⟩)
    cases hq : decide ((i : Int) ∈ row)
    · (try refine go ⟨?_⟩)
      refine ⟨_, _, ?_, .refl _, i + 1, _, _, _, ⟨by omega, rfl, ?_, ?_, h3⟩, rfl, rfl, ?_, ?_, ?_⟩
      · omega
      · rw [List.range_succ, List.filter_append]; simp [hq]
      · rw [List.range_succ, List.filter_append]; simp [hq]
      all_goals rfl
    · (try refine go ⟨?_⟩)
      refine ⟨_, _, ?_, .refl _, i + 1, _, _, _, ⟨by omega, rfl, ?_, ?_, .inr rfl⟩, rfl, rfl, ?_, ?_, ?_⟩
      · omega
      · rw [List.range_succ, List.filter_append]; simp [hq]
      · rw [List.range_succ, List.filter_append]; simp [hq]
      all_goals rfl
  · (try refine go ⟨?_⟩)
    refine ⟨by first | exact .inr rfl | exact .inl rfl, .inl ⟨[], _, (by dsimp only [Tryd.f44]; exact sv), ?_, by simp⟩⟩
    obtain rfl : i = 16 := by omega
    rw [LI_ints]; rfl
theorem refKills_ev (rows : List (List Int)) (left : List Nat) (t : Int) (hrr : ∀ r ∈ rows, r.length < 1000000) (hin : ∀ i ∈ left, i < rows.length) (hl : left.length < 1000000) (sto : Sto) (lo : Nat) (hlo : lo ≤ sto.length) : CallEv Tryd.prog tab B0 48 [.v (LLI rows), .v (LI (ints left)), .v (VI t)] sto lo (.v (VI (killsS rows left t))) sto := by
  refine CallEv.intro ⟨_, _, [], Tryd.func48, rfl, by decide, ?_⟩; simp only [go_sem, Tryd.ntmps48]
  (try refine go ⟨?_⟩)
  refine c_loop (fun m s => ∃ (i : Nat) (acc : Nat), (i ≤ left.length ∧ m = left.length - i ∧ acc = killsS rows (left.take i) t) ∧ (s.env.length = 27 ∧ s.sto = sto ∧ s.env[0]? = some (.v (LLI rows)) ∧ s.env[1]? = some (.v (LI (ints left))) ∧ s.env[2]? = some (.v (VI t)) ∧ s.env[7]? = some (.v (VI acc)) ∧ s.env[8]? = some (.v (VI i)))) (.refl _) ⟨0, _, ⟨by omega, rfl, rfl⟩, rfl, rfl, ?_, ?_, ?_, ?_, ?_⟩ ?_
  all_goals first | rfl | skip
  rintro m s ⟨i, acc, ⟨h1, rfl, rfl⟩, hL, hT, k0, k1, k2, k7, k8⟩
  obtain ⟨env, st0⟩ := s; obtain ⟨J, hJ⟩ := listJ hL; rw [show (List.range 27).map J = J 0 :: J 1 :: J 2 :: J 3 :: J 4 :: J 5 :: J 6 :: J 7 :: J 8 :: J 9 :: J 10 :: J 11 :: J 12 :: J 13 :: J 14 :: J 15 :: J 16 :: J 17 :: J 18 :: J 19 :: J 20 :: J 21 :: J 22 :: J 23 :: J 24 :: J 25 :: J 26 :: [] from by kernel_rfl] at hJ; replace k0 := Option.some.inj ((congrArg (·[0]?) hJ).symm.trans k0); replace k1 := Option.some.inj ((congrArg (·[1]?) hJ).symm.trans k1); replace k2 := Option.some.inj ((congrArg (·[2]?) hJ).symm.trans k2); replace k7 := Option.some.inj ((congrArg (·[7]?) hJ).symm.trans k7); replace k8 := Option.some.inj ((congrArg (·[8]?) hJ).symm.trans k8); rw [k0, k1, k2, k7, k8] at hJ; dsimp only at hJ hT; subst hJ; replace hT := hT.symm; subst hT; clear hL k0 k1 k2 k7 k8
  have hk : killsS rows (left.take i) t ≤ i := by
    have := List.countP_le_length (p := fun i => decide (t ∈ rows.getD i [])) (l := left.take i)
    rw [List.length_take_of_le h1] at this
    exact this
  by_cases hb : i < left.length
  · have h2 := hin left[i] (List.getElem_mem hb)
    have h3 := hrr rows[left[i]] (List.getElem_mem h2)
    have hg : rows.getD left[i] [] = rows[left[i]] := by simp [List.getD, h2]
    have h5 : killsS rows (left.take (i + 1)) t = killsS rows (left.take i) t + if t ∈ rows[left[i]] then 1 else 0 := by
      rw [take_succ hb, killsS, List.countP_append]; simp [List.countP_cons, hg, killsS, -List.getD_eq_getElem?_getD]
    have hi2 : (ints left).length = left.length := by simp
    (try refine go ⟨?_⟩)
    ((refine call ?_); (refine ⟨_, has_ev _ _ (by omega) _ _ (by first | omega | (simp; done) | (simp; omega)), ?_⟩); (try simp only [go_sem]))
    (try refine go ⟨?_⟩)
    by_cases hq : t ∈ rows[left[i]]
    · simp only [hq, decide_true, if_true] at h5 ⊢
      (try refine go ⟨?_⟩)
      refine ⟨_, _, ?_, .refl _, i + 1, _, ⟨by omega, rfl, rfl⟩, rfl, rfl, ?_, ?_, ?_, ?_, ?_⟩
      · omega
      all_goals first | rfl | (rw [h5]; rfl)
    · simp only [hq, decide_false, if_false] at h5 ⊢
      (try refine go ⟨?_⟩)
      refine ⟨_, _, ?_, .refl _, i + 1, _, ⟨by omega, rfl, rfl⟩, rfl, rfl, ?_, ?_, ?_, ?_, ?_⟩
      · omega
      all_goals first | rfl | (rw [h5]; rfl)
  · (try refine go ⟨?_⟩)
    refine ⟨by first | exact .inr rfl | exact .inl rfl, .inl ⟨[], _, (by dsimp only [Tryd.f48]; exact sv), ?_, by simp⟩⟩
    rw [List.take_of_length_le (by omega)]
end Go.Proofs.YtgkhcjdpdgfdbaaDoor
namespace Go.Proofs.YtgkhcjdpdgfdbaaDoor
open Go Go.RowKit

attribute [local irreducible] EvOps EvC
set_option linter.unusedSimpArgs false
set_option linter.unusedVariables false
set_option maxRecDepth 100000
set_option maxHeartbeats 2000000
theorem refSubset_ev (x many : Nat) (hx : x < 4611686018427387904) (hm : many < 1000000) (sto : Sto) (lo : Nat) (hlo : lo ≤ sto.length) : CallEv Tryd.prog tab B0 19 [.v (VI x), .v (VI many)] sto lo (.v (LI (ints (subsetS x many)))) sto := by
  refine CallEv.intro ⟨_, _, [], Tryd.func19, rfl, by decide, ?_⟩; simp only [go_sem, Tryd.ntmps19]
  (try refine go ⟨?_⟩)
  refine c_loop (fun m s => ∃ (i : Nat) (cur : Nat) (n : Nat) (cs : List V) (es : Option (TypeId × Nat)), (i ≤ many ∧ m = many - i ∧ cur = x / 2 ^ i ∧ n = (subsetS x i).length ∧ cs = (ints (subsetS x i)).map VI ∧ (es = none ∨ es = some (3, 1))) ∧ (s.env.length = 22 ∧ s.sto = sto ++ [.arr es false n cs] ∧ s.env[0]? = some (.v (VI cur)) ∧ s.env[1]? = some (.v (VI many)) ∧ s.env[5]? = some (.arr sto.length n) ∧ s.env[6]? = some (.v (VI i)))) (.adopt _ 5 false rfl hlo) ⟨0, x, _, _, _, ⟨by omega, rfl, by simp, rfl, rfl, .inl rfl⟩, rfl, rfl, ?_, ?_, ?_, ?_⟩ ?_
  all_goals first | rfl | skip
  rintro m s ⟨i, cur, n, cs, es, ⟨h1, rfl, hcur, rfl, rfl, h3⟩, hL, hT, k0, k1, k5, k6⟩
  obtain ⟨env, st0⟩ := s; obtain ⟨J, hJ⟩ := listJ hL; rw [show (List.range 22).map J = J 0 :: J 1 :: J 2 :: J 3 :: J 4 :: J 5 :: J 6 :: J 7 :: J 8 :: J 9 :: J 10 :: J 11 :: J 12 :: J 13 :: J 14 :: J 15 :: J 16 :: J 17 :: J 18 :: J 19 :: J 20 :: J 21 :: [] from by kernel_rfl] at hJ; replace k0 := Option.some.inj ((congrArg (·[0]?) hJ).symm.trans k0); replace k1 := Option.some.inj ((congrArg (·[1]?) hJ).symm.trans k1); replace k5 := Option.some.inj ((congrArg (·[5]?) hJ).symm.trans k5); replace k6 := Option.some.inj ((congrArg (·[6]?) hJ).symm.trans k6); rw [k0, k1, k5, k6] at hJ; dsimp only at hJ hT; subst hJ; replace hT := hT.symm; subst hT; clear hL k0 k1 k5 k6
  have hn := subsetS_length x i
  have hs := subsetS_succ x i
  rw [← hcur] at hs
  have hd : cur / 2 = x / 2 ^ (i + 1) := by rw [hcur, Nat.div_div_eq_div_mul, Nat.pow_succ]
  have hle : cur ≤ x := by rw [hcur]; exact Nat.div_le_self _ _
  by_cases hb : i < many
  · by_cases hq : cur % 2 = 1
    · rw [if_pos hq] at hs
      (try refine go ⟨?_⟩)
      refine ⟨_, _, ?_, .refl _, i + 1, cur / 2, _, _, _, ⟨by omega, rfl, hd, ?_, ?_, .inr rfl⟩, rfl, rfl, ?_, ?_, ?_, ?_⟩
      · omega
      · rw [hs]; simp
      · rw [hs]; simp
      all_goals rfl
    · rw [if_neg hq] at hs
      (try refine go ⟨?_⟩)
      refine ⟨_, _, ?_, .refl _, i + 1, cur / 2, _, _, _, ⟨by omega, rfl, hd, ?_, ?_, h3⟩, rfl, rfl, ?_, ?_, ?_, ?_⟩
      · omega
      · rw [hs]; simp
      · rw [hs]; simp
      all_goals rfl
  · (try refine go ⟨?_⟩)
    refine ⟨by first | exact .inr rfl | exact .inl rfl, .inl ⟨[], _, (by dsimp only [Tryd.f19]; exact sv), ?_, by simp⟩⟩
    obtain rfl : i = many := by omega
    rw [LI_ints]
theorem refSuite_ev (rows : List (List Int)) (cost ts : List Int) (hr : rows.length < 1000000) (hrr : ∀ r ∈ rows, r.length < 1000000) (hc : cost.length < 1000000) (ht : ts.length < 1000000) (sto : Sto) (lo : Nat) (hlo : lo ≤ sto.length) : CallEv Tryd.prog tab B0 29 [.v (LLI rows), .v (LI cost), .v (LI ts)] sto lo (.v (.bool (suiteS rows cost ts))) sto := by
  refine CallEv.intro ⟨_, _, [], Tryd.func29, rfl, by decide, ?_⟩; simp only [go_sem, Tryd.ntmps29]
  (try refine go ⟨?_⟩)
  refine c_loop (fun m s => ∃ (i : Nat), (i ≤ ts.length ∧ m = ts.length - i ∧ -1 ≤ lastI ts i ∧ (0 < i → 0 ≤ lastI ts i) ∧ incS cost.length (-1) ts = incS cost.length (lastI ts i) (ts.drop i)) ∧ (s.env.length = 50 ∧ s.sto = sto ∧ s.env[0]? = some (.v (LLI rows)) ∧ s.env[1]? = some (.v (LI cost)) ∧ s.env[2]? = some (.v (LI ts)) ∧ s.env[7]? = some (.v (VI i)))) (.refl _) ⟨0, ⟨by omega, rfl, by simp [lastI], by omega, rfl⟩, rfl, rfl, ?_, ?_, ?_, ?_⟩ ?_
  all_goals first | rfl | skip
  rintro m s ⟨i, ⟨h1, rfl, h2, h2', h3⟩, hL, hT, k0, k1, k2, k7⟩
  obtain ⟨env, st0⟩ := s; obtain ⟨J, hJ⟩ := listJ hL; rw [show (List.range 50).map J = J 0 :: J 1 :: J 2 :: J 3 :: J 4 :: J 5 :: J 6 :: J 7 :: J 8 :: J 9 :: J 10 :: J 11 :: J 12 :: J 13 :: J 14 :: J 15 :: J 16 :: J 17 :: J 18 :: J 19 :: J 20 :: J 21 :: J 22 :: J 23 :: J 24 :: J 25 :: J 26 :: J 27 :: J 28 :: J 29 :: J 30 :: J 31 :: J 32 :: J 33 :: J 34 :: J 35 :: J 36 :: J 37 :: J 38 :: J 39 :: J 40 :: J 41 :: J 42 :: J 43 :: J 44 :: J 45 :: J 46 :: J 47 :: J 48 :: J 49 :: [] from by kernel_rfl] at hJ; replace k0 := Option.some.inj ((congrArg (·[0]?) hJ).symm.trans k0); replace k1 := Option.some.inj ((congrArg (·[1]?) hJ).symm.trans k1); replace k2 := Option.some.inj ((congrArg (·[2]?) hJ).symm.trans k2); replace k7 := Option.some.inj ((congrArg (·[7]?) hJ).symm.trans k7); rw [k0, k1, k2, k7] at hJ; dsimp only at hJ hT; subst hJ; replace hT := hT.symm; subst hT; clear hL k0 k1 k2 k7
  by_cases hb : i < ts.length
  · rw [incS_drop hb] at h3
    have hls := lastI_succ hb
    by_cases c1 : ts[i] < 0
    · have hF : suiteS rows cost ts = false := by simp [suiteS, h3, show ¬ lastI ts i < ts[i] by omega]
      (try refine go ⟨?_⟩)
      refine ⟨by first | exact .inr rfl | exact .inl rfl, .inl ⟨[], _, (by dsimp only [Tryd.f29]; exact sv), ?_, by simp⟩⟩
      rw [hF]
    by_cases c2 : ts[i] ≥ cost.length
    · have hF : suiteS rows cost ts = false := by simp [suiteS, h3, show ¬ ts[i] < cost.length by omega]
      (try refine go ⟨?_⟩)
      refine ⟨by first | exact .inr rfl | exact .inl rfl, .inl ⟨[], _, (by dsimp only [Tryd.f29]; exact sv), ?_, by simp⟩⟩
      rw [hF]
    by_cases c3 : i = 0
    · subst c3
      (try refine go ⟨?_⟩)
      refine ⟨_, _, ?_, .refl _, 1, ⟨by omega, rfl, ?_, ?_, ?_⟩, rfl, rfl, ?_, ?_, ?_, ?_⟩
      · omega
      · rw [hls]; omega
      · rw [hls]; omega
      · rw [hls, h3]; simp [lastI, show (-1 : Int) < ts[0] by omega, show ts[0] < cost.length by omega]
      all_goals rfl
    · have hl : lastI ts i = ts[((i : Int) - 1).toNat]'(by omega) := by
        have : ((i : Int) - 1).toNat = i - 1 := by omega
        simp [lastI, c3, this, List.getD, show i - 1 < ts.length by omega]
      rw [hl] at h3 h2 h2'
      by_cases c4 : ts[i] ≤ ts[((i : Int) - 1).toNat]'(by omega)
      · have hF : suiteS rows cost ts = false := by
          rw [decide_eq_false (show ¬ ts[((i : Int) - 1).toNat]'(by omega) < ts[i] by omega)] at h3
          simp [suiteS, h3]
        (try refine go ⟨?_⟩)
        refine ⟨by first | exact .inr rfl | exact .inl rfl, .inl ⟨[], _, (by dsimp only [Tryd.f29]; exact sv), ?_, by simp⟩⟩
        rw [hF]
      · (try refine go ⟨?_⟩)
        refine ⟨_, _, ?_, .refl _, i + 1, ⟨by omega, rfl, ?_, ?_, ?_⟩, rfl, rfl, ?_, ?_, ?_, ?_⟩
        · omega
        · rw [hls]; omega
        · rw [hls]; omega
        · rw [hls, h3, decide_eq_true (show ts[((i : Int) - 1).toNat]'(by omega) < ts[i] by omega), decide_eq_true (show ts[i] < cost.length by omega)]; simp
        all_goals rfl
  · (try refine go ⟨?_⟩)
    ((refine call ?_); (refine ⟨_, refLeft_ev _ _ hr hrr (by omega) _ _ (by first | omega | (simp; done) | (simp; omega)), ?_⟩); (try simp only [go_sem]))
    (try refine go ⟨?_⟩)
    refine ⟨by first | exact .inr rfl | exact .inl rfl, .inl ⟨[], _, (by dsimp only [Tryd.f29]; exact sv), ?_, by simp⟩⟩
    rw [List.drop_of_length_le (by omega)] at h3
    simp only [suiteS, h3, incS]
    cases hL : leftS rows ts <;> simp
    omega
end Go.Proofs.YtgkhcjdpdgfdbaaDoor
namespace Go.Proofs.YtgkhcjdpdgfdbaaDoor
open Go Go.RowKit

attribute [local irreducible] EvOps EvC
set_option linter.unusedSimpArgs false
set_option linter.unusedVariables false
set_option maxRecDepth 100000
set_option maxHeartbeats 1000000
theorem refBefore_ev (a b cost : List Int) (hc : CostOK cost) (hia : In cost.length a) (hib : In cost.length b) (ha : a.length < 1000000) (hb' : b.length < 1000000) (sto : Sto) (lo : Nat) (hlo : lo ≤ sto.length) : CallEv Tryd.prog tab B0 42 [.v (LI a), .v (LI b), .v (LI cost)] sto lo (.v (.bool (beforeS a b cost))) sto := by
  refine CallEv.intro ⟨_, _, [], Tryd.func42, rfl, by decide, ?_⟩; simp only [go_sem, Tryd.ntmps42]
  have hpa := priceS_bound hc a
  have hpb := priceS_bound hc b
  (try refine go ⟨?_⟩)
  ((refine call ?_); (refine ⟨_, refPrice_ev _ _ hc hia ha _ _ (by first | omega | (simp; done) | (simp; omega)), ?_⟩); (try simp only [go_sem]))
  (try refine go ⟨?_⟩)
  ((refine call ?_); (refine ⟨_, refPrice_ev _ _ hc hib hb' _ _ (by first | omega | (simp; done) | (simp; omega)), ?_⟩); (try simp only [go_sem]))
  by_cases c1 : priceS cost a = priceS cost b
  · by_cases c2 : a.length = b.length
    · have hB : beforeS a b cost = lexS a b := by simp [beforeS, c1, c2]
      rw [hB]
      (try refine go ⟨?_⟩)
      refine c_loop (fun m s => ∃ (i : Nat), (i ≤ a.length ∧ m = a.length - i ∧ lexS a b = lexS (a.drop i) (b.drop i)) ∧ (s.env.length = 56 ∧ s.sto = sto ∧ s.env[0]? = some (.v (LI a)) ∧ s.env[1]? = some (.v (LI b)) ∧ s.env[9]? = some (.v (VI i)))) (.refl _) ⟨0, ⟨by omega, rfl, rfl⟩, rfl, rfl, ?_, ?_, ?_⟩ ?_
      all_goals first | rfl | skip
      rintro m s ⟨i, ⟨h1, rfl, h3⟩, hL, hT, k0, k1, k9⟩
      obtain ⟨env, st0⟩ := s; obtain ⟨J, hJ⟩ := listJ hL; rw [show (List.range 56).map J = J 0 :: J 1 :: J 2 :: J 3 :: J 4 :: J 5 :: J 6 :: J 7 :: J 8 :: J 9 :: J 10 :: J 11 :: J 12 :: J 13 :: J 14 :: J 15 :: J 16 :: J 17 :: J 18 :: J 19 :: J 20 :: J 21 :: J 22 :: J 23 :: J 24 :: J 25 :: J 26 :: J 27 :: J 28 :: J 29 :: J 30 :: J 31 :: J 32 :: J 33 :: J 34 :: J 35 :: J 36 :: J 37 :: J 38 :: J 39 :: J 40 :: J 41 :: J 42 :: J 43 :: J 44 :: J 45 :: J 46 :: J 47 :: J 48 :: J 49 :: J 50 :: J 51 :: J 52 :: J 53 :: J 54 :: J 55 :: [] from by kernel_rfl] at hJ; replace k0 := Option.some.inj ((congrArg (·[0]?) hJ).symm.trans k0); replace k1 := Option.some.inj ((congrArg (·[1]?) hJ).symm.trans k1); replace k9 := Option.some.inj ((congrArg (·[9]?) hJ).symm.trans k9); rw [k0, k1, k9] at hJ; dsimp only at hJ hT; subst hJ; replace hT := hT.symm; subst hT; clear hL k0 k1 k9
      by_cases hb : i < a.length
      · rw [lexS_drop hb (by omega)] at h3
        by_cases c3 : a[i] = b[i]
        · rw [if_pos c3] at h3
          (try refine go ⟨?_⟩)
          refine ⟨_, _, ?_, .refl _, i + 1, ⟨by omega, rfl, h3⟩, rfl, rfl, ?_, ?_, ?_⟩
          · omega
          all_goals rfl
        · rw [if_neg c3] at h3
          rw [h3]
          by_cases c4 : a[i] < b[i]
          · (try refine go ⟨?_⟩)
            refine ⟨by first | exact .inr rfl | exact .inl rfl, .inl ⟨[], _, (by dsimp only [Tryd.f42]; exact sv), ?_, by simp⟩⟩
            rw [decide_eq_true c4]
          · (try refine go ⟨?_⟩)
            refine ⟨by first | exact .inr rfl | exact .inl rfl, .inl ⟨[], _, (by dsimp only [Tryd.f42]; exact sv), ?_, by simp⟩⟩
            rw [decide_eq_false c4]
      · (try refine go ⟨?_⟩)
        refine ⟨by first | exact .inr rfl | exact .inl rfl, .inl ⟨[], _, (by dsimp only [Tryd.f42]; exact sv), ?_, by simp⟩⟩
        rw [h3, List.drop_of_length_le (by omega)]; rfl
    · have hB : beforeS a b cost = decide (a.length < b.length) := by simp [beforeS, c1, c2]
      rw [hB]
      by_cases c4 : a.length < b.length
      · (try refine go ⟨?_⟩)
        refine ⟨by first | exact .inr rfl | exact .inl rfl, .inl ⟨[], _, (by dsimp only [Tryd.f42]; exact sv), ?_, by simp⟩⟩
        rw [decide_eq_true c4]
      · (try refine go ⟨?_⟩)
        refine ⟨by first | exact .inr rfl | exact .inl rfl, .inl ⟨[], _, (by dsimp only [Tryd.f42]; exact sv), ?_, by simp⟩⟩
        rw [decide_eq_false c4]
  · have hB : beforeS a b cost = decide (priceS cost a < priceS cost b) := by simp [beforeS, c1]
    rw [hB]
    by_cases c4 : priceS cost a < priceS cost b
    · (try refine go ⟨?_⟩)
      refine ⟨by first | exact .inr rfl | exact .inl rfl, .inl ⟨[], _, (by dsimp only [Tryd.f42]; exact sv), ?_, by simp⟩⟩
      rw [decide_eq_true c4]
    · (try refine go ⟨?_⟩)
      refine ⟨by first | exact .inr rfl | exact .inl rfl, .inl ⟨[], _, (by dsimp only [Tryd.f42]; exact sv), ?_, by simp⟩⟩
      rw [decide_eq_false c4]
theorem refLeast_ev (rows : List (List Int)) (cost : List Int) (hr : rows.length < 1000000) (hrr : ∀ r ∈ rows, r.length < 1000000) (hc : CostOK cost) (sto : Sto) (lo : Nat) (hlo : lo ≤ sto.length) : CallEv Tryd.prog tab B0 15 [.v (LLI rows), .v (LI cost)] sto lo (.v (LI (leastS rows cost))) sto := by
  have hc1 := hc.1
  refine CallEv.intro ⟨_, _, [], Tryd.func15, rfl, by decide, ?_⟩; simp only [go_sem, Tryd.ntmps15]
  (try refine go ⟨?_⟩)
  refine c_loop (fun m s => ∃ (i p : Nat), (i ≤ cost.length ∧ m = cost.length - i ∧ p = 2 ^ i) ∧ (s.env.length = 44 ∧ s.sto = sto ∧ s.env[0]? = some (.v (LLI rows)) ∧ s.env[1]? = some (.v (LI cost)) ∧ s.env[5]? = some (.v (VI p)) ∧ s.env[6]? = some (.v (VI i)))) (.refl _) ⟨0, 1, ⟨by omega, rfl, rfl⟩, rfl, rfl, ?_, ?_, ?_, ?_⟩ ?_
  all_goals first | rfl | skip
  rintro m s ⟨i, p, ⟨h1, rfl, hp⟩, hL, hT, k0, k1, k5, k6⟩
  obtain ⟨env, st0⟩ := s; obtain ⟨J, hJ⟩ := listJ hL; rw [show (List.range 44).map J = J 0 :: J 1 :: J 2 :: J 3 :: J 4 :: J 5 :: J 6 :: J 7 :: J 8 :: J 9 :: J 10 :: J 11 :: J 12 :: J 13 :: J 14 :: J 15 :: J 16 :: J 17 :: J 18 :: J 19 :: J 20 :: J 21 :: J 22 :: J 23 :: J 24 :: J 25 :: J 26 :: J 27 :: J 28 :: J 29 :: J 30 :: J 31 :: J 32 :: J 33 :: J 34 :: J 35 :: J 36 :: J 37 :: J 38 :: J 39 :: J 40 :: J 41 :: J 42 :: J 43 :: [] from by kernel_rfl] at hJ; replace k0 := Option.some.inj ((congrArg (·[0]?) hJ).symm.trans k0); replace k1 := Option.some.inj ((congrArg (·[1]?) hJ).symm.trans k1); replace k5 := Option.some.inj ((congrArg (·[5]?) hJ).symm.trans k5); replace k6 := Option.some.inj ((congrArg (·[6]?) hJ).symm.trans k6); rw [k0, k1, k5, k6] at hJ; dsimp only at hJ hT; subst hJ; replace hT := hT.symm; subst hT; clear hL k0 k1 k5 k6
  have hp2 : p ≤ 65536 := by rw [hp]; exact Nat.le_trans (Nat.pow_le_pow_right (by decide) (show i ≤ 16 by omega)) (by decide)
  have hp0 : 0 < p := by rw [hp]; exact Nat.two_pow_pos i
  by_cases hb : i < cost.length
  · (try refine go ⟨?_⟩)
    refine ⟨_, _, ?_, .refl _, i + 1, p * 2, ⟨by omega, rfl, by rw [hp, Nat.pow_succ]⟩, rfl, rfl, ?_, ?_, ?_, ?_⟩
    · omega
    all_goals rfl
  obtain rfl : i = cost.length := by omega
  (try refine go ⟨?_⟩)
  rw [show ((p : Int) - 1) = ((p - 1 : Nat) : Int) from by omega]
  ((refine call ?_); (refine ⟨_, refSubset_ev (p - 1) cost.length (by omega) (by omega) _ _ (by first | omega | (simp; done) | (simp; omega)), ?_⟩); (try simp only [go_sem]))
  (try refine go ⟨?_⟩)
  refine c_loop (fun m s => ∃ (i : Nat) (best : List Int), (i ≤ p ∧ m = p - i ∧ In cost.length best ∧ best.length ≤ 16 ∧ best = (List.range i).foldl (fun best n => if suiteS rows cost (ints (subsetS n cost.length)) && beforeS (ints (subsetS n cost.length)) best cost then ints (subsetS n cost.length) else best) (ints (subsetS (p - 1) cost.length))) ∧ (s.env.length = 44 ∧ s.sto = sto ∧ s.env[0]? = some (.v (LLI rows)) ∧ s.env[1]? = some (.v (LI cost)) ∧ s.env[5]? = some (.v (VI p)) ∧ s.env[7]? = some (.v (LI best)) ∧ s.env[8]? = some (.v (VI i)))) (.refl _) ⟨0, _, ⟨by omega, rfl, subsetS_in _ _, ?_, rfl⟩, rfl, rfl, ?_, ?_, ?_, ?_, ?_⟩ ?_
  all_goals first | rfl | skip
  · have := subsetS_length (p - 1) cost.length
    simp; omega
  rintro m s ⟨i, best, ⟨h1, rfl, h2, h3, h4⟩, hL, hT, k0, k1, k5, k7, k8⟩
  obtain ⟨env, st0⟩ := s; obtain ⟨J, hJ⟩ := listJ hL; rw [show (List.range 44).map J = J 0 :: J 1 :: J 2 :: J 3 :: J 4 :: J 5 :: J 6 :: J 7 :: J 8 :: J 9 :: J 10 :: J 11 :: J 12 :: J 13 :: J 14 :: J 15 :: J 16 :: J 17 :: J 18 :: J 19 :: J 20 :: J 21 :: J 22 :: J 23 :: J 24 :: J 25 :: J 26 :: J 27 :: J 28 :: J 29 :: J 30 :: J 31 :: J 32 :: J 33 :: J 34 :: J 35 :: J 36 :: J 37 :: J 38 :: J 39 :: J 40 :: J 41 :: J 42 :: J 43 :: [] from by kernel_rfl] at hJ; replace k0 := Option.some.inj ((congrArg (·[0]?) hJ).symm.trans k0); replace k1 := Option.some.inj ((congrArg (·[1]?) hJ).symm.trans k1); replace k5 := Option.some.inj ((congrArg (·[5]?) hJ).symm.trans k5); replace k7 := Option.some.inj ((congrArg (·[7]?) hJ).symm.trans k7); replace k8 := Option.some.inj ((congrArg (·[8]?) hJ).symm.trans k8); rw [k0, k1, k5, k7, k8] at hJ; dsimp only at hJ hT; subst hJ; replace hT := hT.symm; subst hT; clear hL k0 k1 k5 k7 k8
  have hsl := subsetS_length i cost.length
  have hsl2 : (ints (subsetS i cost.length)).length ≤ cost.length := by simpa using hsl
  by_cases hb : i < p
  · (try refine go ⟨?_⟩)
    ((refine call ?_); (refine ⟨_, refSubset_ev i cost.length (by omega) (by omega) _ _ (by first | omega | (simp; done) | (simp; omega)), ?_⟩); (try simp only [go_sem]))
    (try refine go ⟨?_⟩)
    ((refine call ?_); (refine ⟨_, refSuite_ev rows cost (ints (subsetS i cost.length)) hr hrr (by omega) (by omega) _ _ (by first | omega | (simp; done) | (simp; omega)), ?_⟩); (try simp only [go_sem]))
    (try refine go ⟨?_⟩)
    cases hq : suiteS rows cost (ints (subsetS i cost.length))
    · (try refine go ⟨?_⟩)
      refine ⟨_, _, ?_, .refl _, i + 1, best, ⟨by omega, rfl, h2, h3, ?_⟩, rfl, rfl, ?_, ?_, ?_, ?_, ?_⟩
      · omega
      · rw [List.range_succ, List.foldl_append, ← h4]; simp [hq]
      all_goals rfl
    · (try refine go ⟨?_⟩)
      ((refine call ?_); (refine ⟨_, refBefore_ev (ints (subsetS i cost.length)) best cost hc (subsetS_in _ _) h2 (by omega) (by omega) _ _ (by first | omega | (simp; done) | (simp; omega)), ?_⟩); (try simp only [go_sem]))
      (try refine go ⟨?_⟩)
      cases hq2 : beforeS (ints (subsetS i cost.length)) best cost
      · (try refine go ⟨?_⟩)
        refine ⟨_, _, ?_, .refl _, i + 1, best, ⟨by omega, rfl, h2, h3, ?_⟩, rfl, rfl, ?_, ?_, ?_, ?_, ?_⟩
        · omega
        · rw [List.range_succ, List.foldl_append, ← h4]; simp [hq, hq2]
        all_goals rfl
      · (try refine go ⟨?_⟩)
        refine ⟨_, _, ?_, .refl _, i + 1, ints (subsetS i cost.length), ⟨by omega, rfl, subsetS_in _ _, by omega, ?_⟩, rfl, rfl, ?_, ?_, ?_, ?_, ?_⟩
        · omega
        · rw [List.range_succ, List.foldl_append, ← h4]; simp [hq, hq2]
        all_goals rfl
  · obtain rfl : i = p := by omega
    (try refine go ⟨?_⟩)
    refine ⟨by first | exact .inr rfl | exact .inl rfl, .inl ⟨[], _, (by dsimp only [Tryd.f15]; exact sv), ?_, by simp⟩⟩
    rw [h4, leastS, hp]
end Go.Proofs.YtgkhcjdpdgfdbaaDoor
namespace Go.Proofs.YtgkhcjdpdgfdbaaDoor
open Go Go.RowKit

attribute [local irreducible] EvOps EvC
attribute [local go_sem] List.flatten_cons List.flatten_nil
set_option linter.unusedSimpArgs false
set_option linter.unusedVariables false
set_option maxRecDepth 100000
set_option maxHeartbeats 20000000
theorem rowAt_eq {rows : List (List Int)} {i : Int} (h : i.toNat < rows.length) : rows[i.toNat] = rowAt rows i := by simp [rowAt, List.getD, h]
theorem packS_drop {rows : List (List Int)} {left p : List Int} {i : Nat} (h : i < p.length) : packS rows left (p.take i) (p.drop i) = (decide (p[i] ∈ left) && (if h : 0 < i then decide (p[i - 1] < p[i]) else true) && !((p.take i).any fun q => meetsS (rowAt rows p[i]) (rowAt rows q)) && packS rows left (p.take (i + 1)) (p.drop (i + 1))) := by
  rw [drop_cons h, packS, take_succ h]
  congr 3
  by_cases hi : 0 < i
  · have : (p.take i).getLast? = some p[i - 1] := by
      rw [List.getLast?_eq_getElem?, List.length_take_of_le (by omega), List.getElem?_take_of_lt (by omega), List.getElem?_eq_getElem (by omega)]
    simp [this, hi]
  · obtain rfl : i = 0 := by omega
    simp
theorem mem_left {rows : List (List Int)} {ts : List Int} {x : Int} (h : x ∈ ints (leftS rows ts)) : 0 ≤ x ∧ x.toNat < rows.length := by
  obtain ⟨j, hj, rfl⟩ := List.mem_map.1 h
  have := left_in hj
  omega
theorem rowAt_in {n : Nat} {rows : List (List Int)} (h : ∀ r ∈ rows, In n r) (i : Int) : In n (rowAt rows i) := by
  by_cases hi : i.toNat < rows.length
  · rw [← rowAt_eq hi]; exact h _ (List.getElem_mem hi)
  · have : rowAt rows i = [] := by simp [rowAt, List.getD, Nat.le_of_not_lt hi]
    rw [this]; intro t ht; cases ht
theorem testsS_in {n : Nat} {row : List Int} (h : In n row) : In n (ints (testsS row)) := by
  intro t ht
  obtain ⟨j, hj, rfl⟩ := List.mem_map.1 ht
  exact h _ (by simpa using (List.mem_filter.1 hj).2)
theorem showsL_drop {rows : List (List Int)} {cost : List Int} {bound : Int} {k : List Crt} {L ts : List Int} {i : Nat} (hk : i < k.length) (hl : i < L.length) : showsL rows cost bound (k.drop i) (L.drop i) ts = (showsS rows cost bound k[i] (ts ++ [L[i]]) && showsL rows cost bound (k.drop (i + 1)) (L.drop (i + 1)) ts) := by
  rw [drop_cons hk, drop_cons hl, showsL]
end Go.Proofs.YtgkhcjdpdgfdbaaDoor
namespace Go.Proofs.YtgkhcjdpdgfdbaaDoor
open Go Go.RowKit

attribute [local irreducible] EvOps EvC
attribute [local go_sem] List.flatten_cons List.flatten_nil
set_option linter.unusedSimpArgs false
set_option linter.unusedVariables false
set_option maxRecDepth 100000
set_option maxHeartbeats 20000000
theorem refShows_leaf (rows : List (List Int)) (cost : List Int) (bound : Int) (hr : rows.length < 1000000) (hrr : ∀ r ∈ rows, r.length < 1000000) (hc : CostOK cost) (hin : ∀ r ∈ rows, In cost.length r) (r : Int) (p : List Int) (k : List Crt) (hk : k.length = 0) (ts : List Int) (sto : Sto) (lo : Nat) (hlen' : ts.length + (1 + p.length + cszs k) < 1000000) (hts : In cost.length ts) (hlo : lo ≤ sto.length) : CallEv Tryd.prog tab B0 47 [.v (LLI rows), .v (LI cost), .v (CV (.mk r p k)), .v (LI ts), .v (VI bound)] sto lo (.v (.bool (showsS rows cost bound (.mk r p k) ts))) sto := by
  have hck := cszs_length k
  have hpr := priceS_bound hc ts
  have hll := leftS_length rows ts
  have hll2 : (ints (leftS rows ts)).length ≤ rows.length := by simpa using hll
  refine CallEv.intro ⟨_, _, [], Tryd.func47, rfl, by decide, ?_⟩; simp only [go_sem, Tryd.ntmps47]
  (try refine go ⟨?_⟩)
  ((refine call ?_); (refine ⟨_, refLeft_ev _ _ hr hrr (by omega) _ _ (by first | omega | (simp; done) | (simp; omega)), ?_⟩); (try simp only [go_sem]))
  have hS : showsS rows cost bound (.mk r p k) ts = (packS rows (ints (leftS rows ts)) [] p && decide (priceS cost ts + (p.map fun i => cheapS cost (rowAt rows i)).sum ≥ bound)) := by simp [showsS, hk]
  rw [hS]
  (try refine go ⟨?_⟩)
  ((refine call ?_); (refine ⟨_, refPrice_ev _ _ hc hts (by omega) _ _ (by first | omega | (simp; done) | (simp; omega)), ?_⟩); (try simp only [go_sem]))
  (try refine go ⟨?_⟩)
  refine c_loop (fun m s => ∃ (i : Nat) (acc : Int), (i ≤ p.length ∧ m = p.length - i ∧ acc = priceS cost ts + ((p.take i).map fun i => cheapS cost (rowAt rows i)).sum ∧ 0 ≤ acc ∧ acc ≤ (ts.length + i) * 1048576 ∧ (∀ q ∈ p.take i, q ∈ ints (leftS rows ts)) ∧ packS rows (ints (leftS rows ts)) [] p = packS rows (ints (leftS rows ts)) (p.take i) (p.drop i)) ∧ (s.env.length = 148 ∧ s.sto = sto ++ [.cells [.v (VI r), .v (LI p), .v (.sl k.length (cellsCs k))]] ∧ s.env[0]? = some (.v (LLI rows)) ∧ s.env[1]? = some (.v (LI cost)) ∧ s.env[3]? = some (.v (LI ts)) ∧ s.env[4]? = some (.v (VI bound)) ∧ s.env[7]? = some (.ptr sto.length 0) ∧ s.env[11]? = some (.v (LI (ints (leftS rows ts)))) ∧ s.env[12]? = some (.v (VI acc)) ∧ s.env[13]? = some (.v (VI i)))) (.refl _) ⟨0, priceS cost ts, ⟨by omega, rfl, by simp, by omega, by omega, by simp, rfl⟩, rfl, rfl, ?_, ?_, ?_, ?_, ?_, ?_, ?_, ?_⟩ ?_
  all_goals first | rfl | skip
  rintro m s ⟨i, acc, ⟨h1, rfl, hacc, ha1, ha2, hpl, h3⟩, hL, hT, k0, k1, k3, k4, k7, k11, k12, k13⟩
  obtain ⟨env, st0⟩ := s; obtain ⟨J, hJ⟩ := listJ hL; rw [show (List.range 148).map J = J 0 :: J 1 :: J 2 :: J 3 :: J 4 :: J 5 :: J 6 :: J 7 :: J 8 :: J 9 :: J 10 :: J 11 :: J 12 :: J 13 :: J 14 :: J 15 :: J 16 :: J 17 :: J 18 :: J 19 :: J 20 :: J 21 :: J 22 :: J 23 :: J 24 :: J 25 :: J 26 :: J 27 :: J 28 :: J 29 :: J 30 :: J 31 :: J 32 :: J 33 :: J 34 :: J 35 :: J 36 :: J 37 :: J 38 :: J 39 :: J 40 :: J 41 :: J 42 :: J 43 :: J 44 :: J 45 :: J 46 :: J 47 :: J 48 :: J 49 :: J 50 :: J 51 :: J 52 :: J 53 :: J 54 :: J 55 :: J 56 :: J 57 :: J 58 :: J 59 :: J 60 :: J 61 :: J 62 :: J 63 :: J 64 :: J 65 :: J 66 :: J 67 :: J 68 :: J 69 :: J 70 :: J 71 :: J 72 :: J 73 :: J 74 :: J 75 :: J 76 :: J 77 :: J 78 :: J 79 :: J 80 :: J 81 :: J 82 :: J 83 :: J 84 :: J 85 :: J 86 :: J 87 :: J 88 :: J 89 :: J 90 :: J 91 :: J 92 :: J 93 :: J 94 :: J 95 :: J 96 :: J 97 :: J 98 :: J 99 :: J 100 :: J 101 :: J 102 :: J 103 :: J 104 :: J 105 :: J 106 :: J 107 :: J 108 :: J 109 :: J 110 :: J 111 :: J 112 :: J 113 :: J 114 :: J 115 :: J 116 :: J 117 :: J 118 :: J 119 :: J 120 :: J 121 :: J 122 :: J 123 :: J 124 :: J 125 :: J 126 :: J 127 :: J 128 :: J 129 :: J 130 :: J 131 :: J 132 :: J 133 :: J 134 :: J 135 :: J 136 :: J 137 :: J 138 :: J 139 :: J 140 :: J 141 :: J 142 :: J 143 :: J 144 :: J 145 :: J 146 :: J 147 :: [] from by kernel_rfl] at hJ; replace k0 := Option.some.inj ((congrArg (·[0]?) hJ).symm.trans k0); replace k1 := Option.some.inj ((congrArg (·[1]?) hJ).symm.trans k1); replace k3 := Option.some.inj ((congrArg (·[3]?) hJ).symm.trans k3); replace k4 := Option.some.inj ((congrArg (·[4]?) hJ).symm.trans k4); replace k7 := Option.some.inj ((congrArg (·[7]?) hJ).symm.trans k7); replace k11 := Option.some.inj ((congrArg (·[11]?) hJ).symm.trans k11); replace k12 := Option.some.inj ((congrArg (·[12]?) hJ).symm.trans k12); replace k13 := Option.some.inj ((congrArg (·[13]?) hJ).symm.trans k13); rw [k0, k1, k3, k4, k7, k11, k12, k13] at hJ; dsimp only at hJ hT; subst hJ; replace hT := hT.symm; subst hT; clear hL k0 k1 k3 k4 k7 k11 k12 k13
  by_cases hb : i < p.length
  · rw [packS_drop hb] at h3
    (try refine go ⟨?_⟩)
    ((refine call ?_); (refine ⟨_, has_ev _ _ (by omega) _ _ (by first | omega | (simp; done) | (simp; omega)), ?_⟩); (try simp only [go_sem]))
    (try refine go ⟨?_⟩)
    cases hq : decide (p[i] ∈ ints (leftS rows ts))
    · rw [hq] at h3
      simp only [Bool.false_and] at h3
      rw [h3]
      (try refine go ⟨?_⟩)
      refine ⟨by first | exact .inr rfl | exact .inl rfl, .inl ⟨[], _, (by dsimp only [Tryd.f47]; exact sv), ?_, by simp⟩⟩
      rfl
    rw [hq] at h3
    have hmem := of_decide_eq_true hq
    have hpi := mem_left hmem
    have hra := rowAt_eq hpi.2
    have hri := hrr rows[p[i].toNat] (List.getElem_mem hpi.2)
    by_cases c3 : i = 0
    · have h0 : ¬ 0 < i := by omega
      rw [dif_neg h0] at h3
      simp only [Bool.true_and, Bool.and_true] at h3
      (try refine go ⟨?_⟩)
      refine c_loop (fun m s => ∃ (j : Nat), (j ≤ i ∧ m = i - j ∧ ((p.take j).any fun q => meetsS (rowAt rows p[i]) (rowAt rows q)) = false) ∧ (s.env.length = 148 ∧ s.sto = sto ++ [.cells [.v (VI r), .v (LI p), .v (.sl k.length (cellsCs k))]] ∧ s.env[0]? = some (.v (LLI rows)) ∧ s.env[1]? = some (.v (LI cost)) ∧ s.env[3]? = some (.v (LI ts)) ∧ s.env[4]? = some (.v (VI bound)) ∧ s.env[7]? = some (.ptr sto.length 0) ∧ s.env[11]? = some (.v (LI (ints (leftS rows ts)))) ∧ s.env[12]? = some (.v (VI acc)) ∧ s.env[13]? = some (.v (VI i)) ∧ s.env[14]? = some (.v (VI j)))) (.refl _) ⟨0, ⟨by omega, rfl, by simp⟩, rfl, rfl, ?_, ?_, ?_, ?_, ?_, ?_, ?_, ?_, ?_⟩ ?_
      all_goals first | rfl | skip
      rintro m s ⟨j, ⟨g1, rfl, g3⟩, hL, hT, k0, k1, k3, k4, k7, k11, k12, k13, k14⟩
      obtain ⟨env, st0⟩ := s; obtain ⟨J, hJ⟩ := listJ hL; rw [show (List.range 148).map J = J 0 :: J 1 :: J 2 :: J 3 :: J 4 :: J 5 :: J 6 :: J 7 :: J 8 :: J 9 :: J 10 :: J 11 :: J 12 :: J 13 :: J 14 :: J 15 :: J 16 :: J 17 :: J 18 :: J 19 :: J 20 :: J 21 :: J 22 :: J 23 :: J 24 :: J 25 :: J 26 :: J 27 :: J 28 :: J 29 :: J 30 :: J 31 :: J 32 :: J 33 :: J 34 :: J 35 :: J 36 :: J 37 :: J 38 :: J 39 :: J 40 :: J 41 :: J 42 :: J 43 :: J 44 :: J 45 :: J 46 :: J 47 :: J 48 :: J 49 :: J 50 :: J 51 :: J 52 :: J 53 :: J 54 :: J 55 :: J 56 :: J 57 :: J 58 :: J 59 :: J 60 :: J 61 :: J 62 :: J 63 :: J 64 :: J 65 :: J 66 :: J 67 :: J 68 :: J 69 :: J 70 :: J 71 :: J 72 :: J 73 :: J 74 :: J 75 :: J 76 :: J 77 :: J 78 :: J 79 :: J 80 :: J 81 :: J 82 :: J 83 :: J 84 :: J 85 :: J 86 :: J 87 :: J 88 :: J 89 :: J 90 :: J 91 :: J 92 :: J 93 :: J 94 :: J 95 :: J 96 :: J 97 :: J 98 :: J 99 :: J 100 :: J 101 :: J 102 :: J 103 :: J 104 :: J 105 :: J 106 :: J 107 :: J 108 :: J 109 :: J 110 :: J 111 :: J 112 :: J 113 :: J 114 :: J 115 :: J 116 :: J 117 :: J 118 :: J 119 :: J 120 :: J 121 :: J 122 :: J 123 :: J 124 :: J 125 :: J 126 :: J 127 :: J 128 :: J 129 :: J 130 :: J 131 :: J 132 :: J 133 :: J 134 :: J 135 :: J 136 :: J 137 :: J 138 :: J 139 :: J 140 :: J 141 :: J 142 :: J 143 :: J 144 :: J 145 :: J 146 :: J 147 :: [] from by kernel_rfl] at hJ; replace k0 := Option.some.inj ((congrArg (·[0]?) hJ).symm.trans k0); replace k1 := Option.some.inj ((congrArg (·[1]?) hJ).symm.trans k1); replace k3 := Option.some.inj ((congrArg (·[3]?) hJ).symm.trans k3); replace k4 := Option.some.inj ((congrArg (·[4]?) hJ).symm.trans k4); replace k7 := Option.some.inj ((congrArg (·[7]?) hJ).symm.trans k7); replace k11 := Option.some.inj ((congrArg (·[11]?) hJ).symm.trans k11); replace k12 := Option.some.inj ((congrArg (·[12]?) hJ).symm.trans k12); replace k13 := Option.some.inj ((congrArg (·[13]?) hJ).symm.trans k13); replace k14 := Option.some.inj ((congrArg (·[14]?) hJ).symm.trans k14); rw [k0, k1, k3, k4, k7, k11, k12, k13, k14] at hJ; dsimp only at hJ hT; subst hJ; replace hT := hT.symm; subst hT; clear hL k0 k1 k3 k4 k7 k11 k12 k13 k14
      by_cases hj : j < i
      · exfalso; omega
      · obtain rfl : j = i := by omega
        have hcb := cheapS_bound hc rows[p[j].toNat]
        (try refine go ⟨?_⟩)
        ((refine call ?_); (refine ⟨_, refCheap_ev _ _ (hin _ (List.getElem_mem hpi.2)) (by omega) _ _ (by first | omega | (simp; done) | (simp; omega)), ?_⟩); (try simp only [go_sem]))
        (try refine go ⟨?_⟩)
        refine ⟨_, _, ?_, .refl _, j + 1, acc + cheapS cost rows[p[j].toNat], ⟨by omega, rfl, ?_, by omega, by omega, ?_, ?_⟩, rfl, rfl, ?_, ?_, ?_, ?_, ?_, ?_, ?_, ?_⟩
        · omega
        · rw [hacc, take_succ hb, List.map_append, List.sum_append, hra]; simp only [List.map_cons, List.map_nil, List.sum_cons, List.sum_nil]; omega
        · intro q hq
          rw [take_succ hb] at hq
          rcases List.mem_append.1 hq with h | h
          · exact hpl q h
          · rw [List.mem_singleton.1 h]; exact hmem
        · rw [h3, g3]; rfl
        all_goals rfl
    · have hidx : ((i : Int) - 1).toNat = i - 1 := by omega
      by_cases c4 : p[i] ≤ p[((i : Int) - 1).toNat]'(by omega)
      · have : packS rows (ints (leftS rows ts)) [] p = false := by
          rw [h3, dif_pos (by omega)]
          simp only [hidx] at c4
          simp [show ¬ p[i - 1] < p[i] by omega]
        rw [this]
        (try refine go ⟨?_⟩)
        refine ⟨by first | exact .inr rfl | exact .inl rfl, .inl ⟨[], _, (by dsimp only [Tryd.f47]; exact sv), ?_, by simp⟩⟩
        rfl
      have h0 : p[i - 1] < p[i] := by simp only [hidx] at c4; omega
      rw [dif_pos (by omega), decide_eq_true h0] at h3
      simp only [Bool.true_and, Bool.and_true] at h3
      (try refine go ⟨?_⟩)
      refine c_loop (fun m s => ∃ (j : Nat), (j ≤ i ∧ m = i - j ∧ ((p.take j).any fun q => meetsS (rowAt rows p[i]) (rowAt rows q)) = false) ∧ (s.env.length = 148 ∧ s.sto = sto ++ [.cells [.v (VI r), .v (LI p), .v (.sl k.length (cellsCs k))]] ∧ s.env[0]? = some (.v (LLI rows)) ∧ s.env[1]? = some (.v (LI cost)) ∧ s.env[3]? = some (.v (LI ts)) ∧ s.env[4]? = some (.v (VI bound)) ∧ s.env[7]? = some (.ptr sto.length 0) ∧ s.env[11]? = some (.v (LI (ints (leftS rows ts)))) ∧ s.env[12]? = some (.v (VI acc)) ∧ s.env[13]? = some (.v (VI i)) ∧ s.env[14]? = some (.v (VI j)))) (.refl _) ⟨0, ⟨by omega, rfl, by simp⟩, rfl, rfl, ?_, ?_, ?_, ?_, ?_, ?_, ?_, ?_, ?_⟩ ?_
      all_goals first | rfl | skip
      rintro m s ⟨j, ⟨g1, rfl, g3⟩, hL, hT, k0, k1, k3, k4, k7, k11, k12, k13, k14⟩
      obtain ⟨env, st0⟩ := s; obtain ⟨J, hJ⟩ := listJ hL; rw [show (List.range 148).map J = J 0 :: J 1 :: J 2 :: J 3 :: J 4 :: J 5 :: J 6 :: J 7 :: J 8 :: J 9 :: J 10 :: J 11 :: J 12 :: J 13 :: J 14 :: J 15 :: J 16 :: J 17 :: J 18 :: J 19 :: J 20 :: J 21 :: J 22 :: J 23 :: J 24 :: J 25 :: J 26 :: J 27 :: J 28 :: J 29 :: J 30 :: J 31 :: J 32 :: J 33 :: J 34 :: J 35 :: J 36 :: J 37 :: J 38 :: J 39 :: J 40 :: J 41 :: J 42 :: J 43 :: J 44 :: J 45 :: J 46 :: J 47 :: J 48 :: J 49 :: J 50 :: J 51 :: J 52 :: J 53 :: J 54 :: J 55 :: J 56 :: J 57 :: J 58 :: J 59 :: J 60 :: J 61 :: J 62 :: J 63 :: J 64 :: J 65 :: J 66 :: J 67 :: J 68 :: J 69 :: J 70 :: J 71 :: J 72 :: J 73 :: J 74 :: J 75 :: J 76 :: J 77 :: J 78 :: J 79 :: J 80 :: J 81 :: J 82 :: J 83 :: J 84 :: J 85 :: J 86 :: J 87 :: J 88 :: J 89 :: J 90 :: J 91 :: J 92 :: J 93 :: J 94 :: J 95 :: J 96 :: J 97 :: J 98 :: J 99 :: J 100 :: J 101 :: J 102 :: J 103 :: J 104 :: J 105 :: J 106 :: J 107 :: J 108 :: J 109 :: J 110 :: J 111 :: J 112 :: J 113 :: J 114 :: J 115 :: J 116 :: J 117 :: J 118 :: J 119 :: J 120 :: J 121 :: J 122 :: J 123 :: J 124 :: J 125 :: J 126 :: J 127 :: J 128 :: J 129 :: J 130 :: J 131 :: J 132 :: J 133 :: J 134 :: J 135 :: J 136 :: J 137 :: J 138 :: J 139 :: J 140 :: J 141 :: J 142 :: J 143 :: J 144 :: J 145 :: J 146 :: J 147 :: [] from by kernel_rfl] at hJ; replace k0 := Option.some.inj ((congrArg (·[0]?) hJ).symm.trans k0); replace k1 := Option.some.inj ((congrArg (·[1]?) hJ).symm.trans k1); replace k3 := Option.some.inj ((congrArg (·[3]?) hJ).symm.trans k3); replace k4 := Option.some.inj ((congrArg (·[4]?) hJ).symm.trans k4); replace k7 := Option.some.inj ((congrArg (·[7]?) hJ).symm.trans k7); replace k11 := Option.some.inj ((congrArg (·[11]?) hJ).symm.trans k11); replace k12 := Option.some.inj ((congrArg (·[12]?) hJ).symm.trans k12); replace k13 := Option.some.inj ((congrArg (·[13]?) hJ).symm.trans k13); replace k14 := Option.some.inj ((congrArg (·[14]?) hJ).symm.trans k14); rw [k0, k1, k3, k4, k7, k11, k12, k13, k14] at hJ; dsimp only at hJ hT; subst hJ; replace hT := hT.symm; subst hT; clear hL k0 k1 k3 k4 k7 k11 k12 k13 k14
      by_cases hj : j < i
      · have hmj := hpl p[j] (List.mem_take_iff_getElem.2 ⟨j, by omega, rfl⟩)
        have hpj := mem_left hmj
        have hrj := rowAt_eq hpj.2
        have hrjl := hrr rows[p[j].toNat] (List.getElem_mem hpj.2)
        (try refine go ⟨?_⟩)
        ((refine call ?_); (refine ⟨_, meets_ev _ _ (by omega) (by omega) _ _ (by first | omega | (simp; done) | (simp; omega)), ?_⟩); (try simp only [go_sem]))
        (try refine go ⟨?_⟩)
        cases hm : meetsS rows[p[i].toNat] rows[p[j].toNat]
        · (try refine go ⟨?_⟩)
          refine ⟨_, _, ?_, .refl _, j + 1, ⟨by omega, rfl, ?_⟩, rfl, rfl, ?_, ?_, ?_, ?_, ?_, ?_, ?_, ?_, ?_⟩
          · omega
          · rw [take_succ (by omega), List.any_append, g3, ← hra]; simp only [List.any_cons, List.any_nil, ← hrj, hm, Bool.or_self]
          all_goals rfl
        · have : packS rows (ints (leftS rows ts)) [] p = false := by
            rw [h3, List.any_eq_true.2 ⟨p[j], List.mem_take_iff_getElem.2 ⟨j, by omega, rfl⟩, by rw [← hra, ← hrj]; exact hm⟩]
            rfl
          rw [this]
          (try refine go ⟨?_⟩)
          refine ⟨by first | exact .inr rfl | exact .inl rfl, .inl ⟨[], _, (by dsimp only [Tryd.f47]; exact sv), ?_, by simp⟩⟩
          rfl
      · obtain rfl : j = i := by omega
        have hcb := cheapS_bound hc rows[p[j].toNat]
        (try refine go ⟨?_⟩)
        ((refine call ?_); (refine ⟨_, refCheap_ev _ _ (hin _ (List.getElem_mem hpi.2)) (by omega) _ _ (by first | omega | (simp; done) | (simp; omega)), ?_⟩); (try simp only [go_sem]))
        (try refine go ⟨?_⟩)
        refine ⟨_, _, ?_, .refl _, j + 1, acc + cheapS cost rows[p[j].toNat], ⟨by omega, rfl, ?_, by omega, by omega, ?_, ?_⟩, rfl, rfl, ?_, ?_, ?_, ?_, ?_, ?_, ?_, ?_⟩
        · omega
        · rw [hacc, take_succ hb, List.map_append, List.sum_append, hra]; simp only [List.map_cons, List.map_nil, List.sum_cons, List.sum_nil]; omega
        · intro q hq
          rw [take_succ hb] at hq
          rcases List.mem_append.1 hq with h | h
          · exact hpl q h
          · rw [List.mem_singleton.1 h]; exact hmem
        · rw [h3, g3]; rfl
        all_goals rfl
  · (try refine go ⟨?_⟩)
    have : packS rows (ints (leftS rows ts)) [] p = true := by rw [h3, List.drop_of_length_le (by omega)]; rfl
    rw [List.take_of_length_le (by omega)] at hacc
    rw [this, ← hacc]
    refine ⟨by first | exact .inr rfl | exact .inl rfl, .inl ⟨[], _, (by dsimp only [Tryd.f47]; exact sv), ?_, by simp⟩⟩
    simp
end Go.Proofs.YtgkhcjdpdgfdbaaDoor
namespace Go.Proofs.YtgkhcjdpdgfdbaaDoor
open Go Go.RowKit

attribute [local irreducible] EvOps EvC
attribute [local go_sem] List.flatten_cons List.flatten_nil List.contains_nil
set_option linter.unusedSimpArgs false
set_option linter.unusedVariables false
set_option maxRecDepth 100000
set_option maxHeartbeats 20000000
theorem refShows_kids (rows : List (List Int)) (cost : List Int) (bound : Int) (hr : rows.length < 1000000) (hrr : ∀ r ∈ rows, r.length < 1000000) (hc : CostOK cost) (hin : ∀ r ∈ rows, In cost.length r) (N : Nat) (ih : ∀ (c : Crt) (ts : List Int) (sto : Sto) (lo : Nat), csz c ≤ N → ts.length + csz c < 1000000 → In cost.length ts → lo ≤ sto.length → CallEv Tryd.prog tab B0 47 [.v (LLI rows), .v (LI cost), .v (CV c), .v (LI ts), .v (VI bound)] sto lo (.v (.bool (showsS rows cost bound c ts))) sto) (r : Int) (p : List Int) (k : List Crt) (hk : ¬ k.length = 0) (ts : List Int) (sto : Sto) (lo : Nat) (hN' : 1 + p.length + cszs k ≤ N + 1) (hlen' : ts.length + (1 + p.length + cszs k) < 1000000) (hts : In cost.length ts) (hlo : lo ≤ sto.length) : CallEv Tryd.prog tab B0 47 [.v (LLI rows), .v (LI cost), .v (CV (.mk r p k)), .v (LI ts), .v (VI bound)] sto lo (.v (.bool (showsS rows cost bound (.mk r p k) ts))) sto := by
  have hck := cszs_length k
  have hpr := priceS_bound hc ts
  have hll := leftS_length rows ts
  have hll2 : (ints (leftS rows ts)).length ≤ rows.length := by simpa using hll
  refine CallEv.intro ⟨_, _, [], Tryd.func47, rfl, by decide, ?_⟩; simp only [go_sem, Tryd.ntmps47]
  (try refine go ⟨?_⟩)
  ((refine call ?_); (refine ⟨_, refLeft_ev _ _ hr hrr (by omega) _ _ (by first | omega | (simp; done) | (simp; omega)), ?_⟩); (try simp only [go_sem]))
  have hS : showsS rows cost bound (.mk r p k) ts = (decide (p.length = 0) && decide (r ∈ ints (leftS rows ts)) && decide ((testsS (rowAt rows r)).length = k.length) && showsL rows cost bound k (ints (testsS (rowAt rows r))) ts) := by simp [showsS, hk]
  rw [hS]
  by_cases hp : p.length = 0
  · (try refine go ⟨?_⟩)
    ((refine call ?_); (refine ⟨_, has_ev _ _ (by omega) _ _ (by first | omega | (simp; done) | (simp; omega)), ?_⟩); (try simp only [go_sem]))
    (try refine go ⟨?_⟩)
    cases hq : decide (r ∈ ints (leftS rows ts))
    · (try refine go ⟨?_⟩)
      refine ⟨by first | exact .inr rfl | exact .inl rfl, .inl ⟨[], _, (by dsimp only [Tryd.f47]; exact sv), ?_, by simp⟩⟩
      simp
    have hmem := of_decide_eq_true hq
    have hri := mem_left hmem
    have hra := rowAt_eq hri.2
    have hrl := hrr rows[r.toNat] (List.getElem_mem hri.2)
    (try refine go ⟨?_⟩)
    ((refine call ?_); (refine ⟨_, refTests_ev _ (by omega) _ _ (by first | omega | (simp; done) | (simp; omega)), ?_⟩); (try simp only [go_sem]))
    rw [hra]
    have htl := testsS_length (rowAt rows r)
    have htl2 : (ints (testsS (rowAt rows r))).length = (testsS (rowAt rows r)).length := by simp
    by_cases hL : (testsS (rowAt rows r)).length = k.length
    · rw [decide_eq_true hp, decide_eq_true hL]
      simp only [Bool.true_and]
      (try refine go ⟨?_⟩)
      refine c_loop (fun m s => ∃ (i : Nat) (js : List Ent), (i ≤ k.length ∧ m = k.length - i ∧ showsL rows cost bound k (ints (testsS (rowAt rows r))) ts = showsL rows cost bound (k.drop i) ((ints (testsS (rowAt rows r))).drop i) ts) ∧ (s.env.length = 148 ∧ s.sto = sto ++ .cells [.v (VI r), .v (LI p), .v (.sl k.length (cellsCs k))] :: js ∧ s.env[0]? = some (.v (LLI rows)) ∧ s.env[1]? = some (.v (LI cost)) ∧ s.env[3]? = some (.v (LI ts)) ∧ s.env[4]? = some (.v (VI bound)) ∧ s.env[7]? = some (.ptr sto.length 0) ∧ s.env[15]? = some (.v (LI (ints (testsS (rowAt rows r))))) ∧ s.env[16]? = some (.v (VI i)))) (.refl _) ⟨0, [], ⟨by omega, rfl, rfl⟩, rfl, rfl, ?_, ?_, ?_, ?_, ?_, ?_, ?_⟩ ?_
      all_goals first | rfl | skip
      rintro m s ⟨i, js, ⟨h1, rfl, h3⟩, hL, hT, k0, k1, k3, k4, k7, k15, k16⟩
      obtain ⟨env, st0⟩ := s; obtain ⟨J, hJ⟩ := listJ hL; rw [show (List.range 148).map J = J 0 :: J 1 :: J 2 :: J 3 :: J 4 :: J 5 :: J 6 :: J 7 :: J 8 :: J 9 :: J 10 :: J 11 :: J 12 :: J 13 :: J 14 :: J 15 :: J 16 :: J 17 :: J 18 :: J 19 :: J 20 :: J 21 :: J 22 :: J 23 :: J 24 :: J 25 :: J 26 :: J 27 :: J 28 :: J 29 :: J 30 :: J 31 :: J 32 :: J 33 :: J 34 :: J 35 :: J 36 :: J 37 :: J 38 :: J 39 :: J 40 :: J 41 :: J 42 :: J 43 :: J 44 :: J 45 :: J 46 :: J 47 :: J 48 :: J 49 :: J 50 :: J 51 :: J 52 :: J 53 :: J 54 :: J 55 :: J 56 :: J 57 :: J 58 :: J 59 :: J 60 :: J 61 :: J 62 :: J 63 :: J 64 :: J 65 :: J 66 :: J 67 :: J 68 :: J 69 :: J 70 :: J 71 :: J 72 :: J 73 :: J 74 :: J 75 :: J 76 :: J 77 :: J 78 :: J 79 :: J 80 :: J 81 :: J 82 :: J 83 :: J 84 :: J 85 :: J 86 :: J 87 :: J 88 :: J 89 :: J 90 :: J 91 :: J 92 :: J 93 :: J 94 :: J 95 :: J 96 :: J 97 :: J 98 :: J 99 :: J 100 :: J 101 :: J 102 :: J 103 :: J 104 :: J 105 :: J 106 :: J 107 :: J 108 :: J 109 :: J 110 :: J 111 :: J 112 :: J 113 :: J 114 :: J 115 :: J 116 :: J 117 :: J 118 :: J 119 :: J 120 :: J 121 :: J 122 :: J 123 :: J 124 :: J 125 :: J 126 :: J 127 :: J 128 :: J 129 :: J 130 :: J 131 :: J 132 :: J 133 :: J 134 :: J 135 :: J 136 :: J 137 :: J 138 :: J 139 :: J 140 :: J 141 :: J 142 :: J 143 :: J 144 :: J 145 :: J 146 :: J 147 :: [] from by kernel_rfl] at hJ; replace k0 := Option.some.inj ((congrArg (·[0]?) hJ).symm.trans k0); replace k1 := Option.some.inj ((congrArg (·[1]?) hJ).symm.trans k1); replace k3 := Option.some.inj ((congrArg (·[3]?) hJ).symm.trans k3); replace k4 := Option.some.inj ((congrArg (·[4]?) hJ).symm.trans k4); replace k7 := Option.some.inj ((congrArg (·[7]?) hJ).symm.trans k7); replace k15 := Option.some.inj ((congrArg (·[15]?) hJ).symm.trans k15); replace k16 := Option.some.inj ((congrArg (·[16]?) hJ).symm.trans k16); rw [k0, k1, k3, k4, k7, k15, k16] at hJ; dsimp only at hJ hT; subst hJ; replace hT := hT.symm; subst hT; clear hL k0 k1 k3 k4 k7 k15 k16
      by_cases hb : i < k.length
      · have hcz := csz_get hb
        have hti := testsS_in (rowAt_in hin r) ((testsS (rowAt rows r))[i] : Int) (List.mem_map.2 ⟨_, List.getElem_mem (by omega), rfl⟩)
        have hin2 : In cost.length (ts ++ [((testsS (rowAt rows r))[i] : Int)]) := by
          intro t ht
          rcases List.mem_append.1 ht with h | h
          · exact hts t h
          · rw [List.mem_singleton.1 h]; exact hti
        by_cases ht0 : ts.length = 0
        · obtain rfl := List.eq_nil_of_length_eq_zero ht0
          (try refine go ⟨?_⟩)
          ((refine call ?_); (refine ⟨_, ih k[i] ([] ++ [((testsS (rowAt rows r))[i] : Int)]) _ _ (by omega) (by simp; omega) hin2 (by first | omega | (simp; done) | (simp; omega)), ?_⟩); (try simp only [go_sem]))
          (try refine go ⟨?_⟩)
          rw [showsL_drop (by omega) (by simp; omega)] at h3
          simp only [List.getElem_map, List.nil_append] at h3
          cases hq2 : showsS rows cost bound k[i] [((testsS (rowAt rows r))[i] : Int)]
          · rw [hq2] at h3
            rw [h3]
            (try refine go ⟨?_⟩)
            refine ⟨by first | exact .inr rfl | exact .inl rfl, .inl ⟨[], _, (by dsimp only [Tryd.f47]; exact sv), ?_, by simp⟩⟩
            rfl
          · rw [hq2] at h3
            (try refine go ⟨?_⟩)
            refine ⟨_, _, ?_, .refl _, i + 1, _, ⟨by omega, rfl, ?_⟩, rfl, rfl, ?_, ?_, ?_, ?_, ?_, ?_, ?_⟩
            · omega
            · rw [h3]; rfl
            all_goals rfl
        · (try refine go ⟨?_⟩)
          ((with_reducible apply ops_call); rfl; (simp (disch := (first | omega | assumption | ((repeat' with_reducible apply And.intro) <;> first | omega | assumption | rfl | (apply Or.inl; rfl) | (apply Or.inr; first | rfl | trivial | fail) | fail) | fail)) only [go_sem, if_pos, if_neg, wrapI, wrapU, decide_eq_true, decide_eq_false, beqT, beqF, bneT, bneF] <;> rfl); (rw [show V.sl (ts.length + 1) (ts.map VI ++ [VI ((testsS (rowAt rows r))[i] : Int)]) = LI (ts ++ [((testsS (rowAt rows r))[i] : Int)]) from by simp [LI, SL]]; exact ih k[i] (ts ++ [((testsS (rowAt rows r))[i] : Int)]) _ _ (by omega) (by simp; omega) hin2 (by first | omega | (simp; done) | (simp; omega))); (try simp only [go_sem]))
          (try refine go ⟨?_⟩)
          rw [showsL_drop (by omega) (by simp; omega)] at h3
          simp only [List.getElem_map] at h3
          cases hq2 : showsS rows cost bound k[i] (ts ++ [((testsS (rowAt rows r))[i] : Int)])
          · rw [hq2] at h3
            rw [h3]
            (try refine go ⟨?_⟩)
            refine ⟨by first | exact .inr rfl | exact .inl rfl, .inl ⟨[], _, (by dsimp only [Tryd.f47]; exact sv), ?_, by simp⟩⟩
            rfl
          · rw [hq2] at h3
            (try refine go ⟨?_⟩)
            refine ⟨_, _, ?_, .refl _, i + 1, _, ⟨by omega, rfl, ?_⟩, rfl, rfl, ?_, ?_, ?_, ?_, ?_, ?_, ?_⟩
            · omega
            · rw [h3]; rfl
            all_goals rfl
      · (try refine go ⟨?_⟩)
        refine ⟨by first | exact .inr rfl | exact .inl rfl, .inl ⟨[], _, (by dsimp only [Tryd.f47]; exact sv), ?_, by simp⟩⟩
        rw [h3, List.drop_of_length_le (by omega)]; rfl
    · (try refine go ⟨?_⟩)
      refine ⟨by first | exact .inr rfl | exact .inl rfl, .inl ⟨[], _, (by dsimp only [Tryd.f47]; exact sv), ?_, by simp⟩⟩
      simp [hL]
  · (try refine go ⟨?_⟩)
    refine ⟨by first | exact .inr rfl | exact .inl rfl, .inl ⟨[], _, (by dsimp only [Tryd.f47]; exact sv), ?_, by simp⟩⟩
    simp [hp]
end Go.Proofs.YtgkhcjdpdgfdbaaDoor
namespace Go.Proofs.YtgkhcjdpdgfdbaaDoor
open Go Go.RowKit
theorem refShows_ev (rows : List (List Int)) (cost : List Int) (bound : Int) (hr : rows.length < 1000000) (hrr : ∀ r ∈ rows, r.length < 1000000) (hc : CostOK cost) (hin : ∀ r ∈ rows, In cost.length r) (N : Nat) : ∀ (c : Crt) (ts : List Int) (sto : Sto) (lo : Nat), csz c ≤ N → ts.length + csz c < 1000000 → In cost.length ts → lo ≤ sto.length → CallEv Tryd.prog tab B0 47 [.v (LLI rows), .v (LI cost), .v (CV c), .v (LI ts), .v (VI bound)] sto lo (.v (.bool (showsS rows cost bound c ts))) sto := by
  induction N with
  | zero => intro c ts sto lo h; cases c; simp only [csz] at h; omega
  | succ N ih =>
    rintro ⟨r, p, k⟩ ts sto lo hN hlen hts hlo
    by_cases hk : k.length = 0
    · exact refShows_leaf rows cost bound hr hrr hc hin r p k hk ts sto lo hlen hts hlo
    · exact refShows_kids rows cost bound hr hrr hc hin N ih r p k hk ts sto lo hN hlen hts hlo
end Go.Proofs.YtgkhcjdpdgfdbaaDoor
namespace Go.Proofs.YtgkhcjdpdgfdbaaDoor
open Go Go.RowKit

attribute [local irreducible] EvOps EvC
set_option linter.unusedSimpArgs false
set_option linter.unusedVariables false
set_option maxRecDepth 100000
set_option maxHeartbeats 4000000
theorem all_false {α : Type} {f : α → Bool} {l : List α} {i : Nat} (h : i < l.length) (hf : f l[i] = false) : l.all f = false := by
  rw [List.all_eq_false]; exact ⟨l[i], List.getElem_mem h, by simp [hf]⟩
theorem all_take {α : Type} {f : α → Bool} {l : List α} {i : Nat} (h : i < l.length) (ha : (l.take i).all f = true) (hf : f l[i] = true) : (l.take (i + 1)).all f = true := by
  rw [List.take_succ_eq_append_getElem h, List.all_append, ha]; simp [hf]
def costP (c : Int) : Bool := decide (0 ≤ c) && decide (c ≤ 1048576)
def testP (n : Nat) (t : Int) : Bool := decide (0 ≤ t) && decide (t < n)
theorem possS_eq (rows : List (List Int)) (cost : List Int) : possS rows cost = (decide (rows.length ≤ 512) && decide (cost.length ≤ 16) && cost.all costP && rows.all fun r => r.all (testP cost.length)) := rfl
theorem refPossible_ev (rows : List (List Int)) (cost : List Int) (hr : rows.length < 1000000) (hrr : ∀ r ∈ rows, r.length < 1000000) (hc : cost.length < 1000000) (sto : Sto) (lo : Nat) (hlo : lo ≤ sto.length) : CallEv Tryd.prog tab B0 46 [.v (LLI rows), .v (LI cost)] sto lo (.v (.bool (possS rows cost))) sto := by
  rw [possS_eq]
  refine CallEv.intro ⟨_, _, [], Tryd.func46, rfl, by decide, ?_⟩; simp only [go_sem, Tryd.ntmps46]
  by_cases c1 : rows.length > 512
  · (try refine go ⟨?_⟩)
    refine ⟨by first | exact .inr rfl | exact .inl rfl, .inl ⟨[], _, (by dsimp only [Tryd.f46]; exact sv), ?_, by simp⟩⟩
    simp [show ¬ rows.length ≤ 512 by omega]
  by_cases c2 : cost.length > 16
  · (try refine go ⟨?_⟩)
    refine ⟨by first | exact .inr rfl | exact .inl rfl, .inl ⟨[], _, (by dsimp only [Tryd.f46]; exact sv), ?_, by simp⟩⟩
    simp [show ¬ cost.length ≤ 16 by omega]
  rw [decide_eq_true (show rows.length ≤ 512 by omega), decide_eq_true (show cost.length ≤ 16 by omega)]
  simp only [Bool.true_and]
  (try refine go ⟨?_⟩)
  refine c_loop (fun m s => ∃ (i : Nat), (i ≤ cost.length ∧ m = cost.length - i ∧ (cost.take i).all costP = true) ∧ (s.env.length = 69 ∧ s.sto = sto ∧ s.env[0]? = some (.v (LLI rows)) ∧ s.env[1]? = some (.v (LI cost)) ∧ s.env[5]? = some (.v (VI i)))) (.refl _) ⟨0, ⟨by omega, rfl, by simp⟩, rfl, rfl, ?_, ?_, ?_⟩ ?_
  all_goals first | rfl | skip
  rintro m s ⟨i, ⟨h1, rfl, h3⟩, hL, hT, k0, k1, k5⟩
  obtain ⟨env, st0⟩ := s; obtain ⟨J, hJ⟩ := listJ hL; rw [show (List.range 69).map J = J 0 :: J 1 :: J 2 :: J 3 :: J 4 :: J 5 :: J 6 :: J 7 :: J 8 :: J 9 :: J 10 :: J 11 :: J 12 :: J 13 :: J 14 :: J 15 :: J 16 :: J 17 :: J 18 :: J 19 :: J 20 :: J 21 :: J 22 :: J 23 :: J 24 :: J 25 :: J 26 :: J 27 :: J 28 :: J 29 :: J 30 :: J 31 :: J 32 :: J 33 :: J 34 :: J 35 :: J 36 :: J 37 :: J 38 :: J 39 :: J 40 :: J 41 :: J 42 :: J 43 :: J 44 :: J 45 :: J 46 :: J 47 :: J 48 :: J 49 :: J 50 :: J 51 :: J 52 :: J 53 :: J 54 :: J 55 :: J 56 :: J 57 :: J 58 :: J 59 :: J 60 :: J 61 :: J 62 :: J 63 :: J 64 :: J 65 :: J 66 :: J 67 :: J 68 :: [] from by kernel_rfl] at hJ; replace k0 := Option.some.inj ((congrArg (·[0]?) hJ).symm.trans k0); replace k1 := Option.some.inj ((congrArg (·[1]?) hJ).symm.trans k1); replace k5 := Option.some.inj ((congrArg (·[5]?) hJ).symm.trans k5); rw [k0, k1, k5] at hJ; dsimp only at hJ hT; subst hJ; replace hT := hT.symm; subst hT; clear hL k0 k1 k5
  by_cases hb : i < cost.length
  · by_cases d1 : cost[i] < 0
    · rw [all_false (f := costP) hb (by simp [costP]; omega)]
      (try refine go ⟨?_⟩)
      refine ⟨by first | exact .inr rfl | exact .inl rfl, .inl ⟨[], _, (by dsimp only [Tryd.f46]; exact sv), ?_, by simp⟩⟩
      rfl
    by_cases d2 : cost[i] > 1048576
    · rw [all_false (f := costP) hb (by simp [costP]; omega)]
      (try refine go ⟨?_⟩)
      refine ⟨by first | exact .inr rfl | exact .inl rfl, .inl ⟨[], _, (by dsimp only [Tryd.f46]; exact sv), ?_, by simp⟩⟩
      rfl
    have hn := all_take (f := costP) hb h3 (by simp [costP]; omega)
    (try refine go ⟨?_⟩)
    refine ⟨_, _, ?_, .refl _, i + 1, ⟨by omega, rfl, hn⟩, rfl, rfl, ?_, ?_, ?_⟩
    · omega
    all_goals rfl
  rw [List.take_of_length_le (by omega)] at h3
  rw [h3]
  simp only [Bool.true_and]
  (try refine go ⟨?_⟩)
  refine c_loop (fun m s => ∃ (i : Nat), (i ≤ rows.length ∧ m = rows.length - i ∧ ((rows.take i).all fun r => r.all (testP cost.length)) = true) ∧ (s.env.length = 69 ∧ s.sto = sto ∧ s.env[0]? = some (.v (LLI rows)) ∧ s.env[1]? = some (.v (LI cost)) ∧ s.env[6]? = some (.v (VI i)))) (.refl _) ⟨0, ⟨by omega, rfl, by simp⟩, rfl, rfl, ?_, ?_, ?_⟩ ?_
  all_goals first | rfl | skip
  clear hb h1 h3 i
  rintro m s ⟨i, ⟨h1, rfl, h3⟩, hL, hT, k0, k1, k6⟩
  obtain ⟨env, st0⟩ := s; obtain ⟨J, hJ⟩ := listJ hL; rw [show (List.range 69).map J = J 0 :: J 1 :: J 2 :: J 3 :: J 4 :: J 5 :: J 6 :: J 7 :: J 8 :: J 9 :: J 10 :: J 11 :: J 12 :: J 13 :: J 14 :: J 15 :: J 16 :: J 17 :: J 18 :: J 19 :: J 20 :: J 21 :: J 22 :: J 23 :: J 24 :: J 25 :: J 26 :: J 27 :: J 28 :: J 29 :: J 30 :: J 31 :: J 32 :: J 33 :: J 34 :: J 35 :: J 36 :: J 37 :: J 38 :: J 39 :: J 40 :: J 41 :: J 42 :: J 43 :: J 44 :: J 45 :: J 46 :: J 47 :: J 48 :: J 49 :: J 50 :: J 51 :: J 52 :: J 53 :: J 54 :: J 55 :: J 56 :: J 57 :: J 58 :: J 59 :: J 60 :: J 61 :: J 62 :: J 63 :: J 64 :: J 65 :: J 66 :: J 67 :: J 68 :: [] from by kernel_rfl] at hJ; replace k0 := Option.some.inj ((congrArg (·[0]?) hJ).symm.trans k0); replace k1 := Option.some.inj ((congrArg (·[1]?) hJ).symm.trans k1); replace k6 := Option.some.inj ((congrArg (·[6]?) hJ).symm.trans k6); rw [k0, k1, k6] at hJ; dsimp only at hJ hT; subst hJ; replace hT := hT.symm; subst hT; clear hL k0 k1 k6
  by_cases hb : i < rows.length
  · have hri := hrr rows[i] (List.getElem_mem hb)
    (try refine go ⟨?_⟩)
    refine c_loop (fun m s => ∃ (k : Nat), (k ≤ rows[i].length ∧ m = rows[i].length - k ∧ (rows[i].take k).all (testP cost.length) = true) ∧ (s.env.length = 69 ∧ s.sto = sto ∧ s.env[0]? = some (.v (LLI rows)) ∧ s.env[1]? = some (.v (LI cost)) ∧ s.env[6]? = some (.v (VI i)) ∧ s.env[7]? = some (.v (VI k)))) (.refl _) ⟨0, ⟨by omega, rfl, by simp⟩, rfl, rfl, ?_, ?_, ?_, ?_⟩ ?_
    all_goals first | rfl | skip
    rintro m s ⟨k, ⟨g1, rfl, g3⟩, hL, hT, k0, k1, k6, k7⟩
    obtain ⟨env, st0⟩ := s; obtain ⟨J, hJ⟩ := listJ hL; rw [show (List.range 69).map J = J 0 :: J 1 :: J 2 :: J 3 :: J 4 :: J 5 :: J 6 :: J 7 :: J 8 :: J 9 :: J 10 :: J 11 :: J 12 :: J 13 :: J 14 :: J 15 :: J 16 :: J 17 :: J 18 :: J 19 :: J 20 :: J 21 :: J 22 :: J 23 :: J 24 :: J 25 :: J 26 :: J 27 :: J 28 :: J 29 :: J 30 :: J 31 :: J 32 :: J 33 :: J 34 :: J 35 :: J 36 :: J 37 :: J 38 :: J 39 :: J 40 :: J 41 :: J 42 :: J 43 :: J 44 :: J 45 :: J 46 :: J 47 :: J 48 :: J 49 :: J 50 :: J 51 :: J 52 :: J 53 :: J 54 :: J 55 :: J 56 :: J 57 :: J 58 :: J 59 :: J 60 :: J 61 :: J 62 :: J 63 :: J 64 :: J 65 :: J 66 :: J 67 :: J 68 :: [] from by kernel_rfl] at hJ; replace k0 := Option.some.inj ((congrArg (·[0]?) hJ).symm.trans k0); replace k1 := Option.some.inj ((congrArg (·[1]?) hJ).symm.trans k1); replace k6 := Option.some.inj ((congrArg (·[6]?) hJ).symm.trans k6); replace k7 := Option.some.inj ((congrArg (·[7]?) hJ).symm.trans k7); rw [k0, k1, k6, k7] at hJ; dsimp only at hJ hT; subst hJ; replace hT := hT.symm; subst hT; clear hL k0 k1 k6 k7
    by_cases hk : k < rows[i].length
    · by_cases d1 : rows[i][k] < 0
      · rw [all_false (f := fun r : List Int => r.all (testP cost.length)) hb (all_false (f := testP cost.length) hk (by simp [testP]; omega))]
        (try refine go ⟨?_⟩)
        refine ⟨by first | exact .inr rfl | exact .inl rfl, .inl ⟨[], _, (by dsimp only [Tryd.f46]; exact sv), ?_, by simp⟩⟩
        rfl
      by_cases d2 : rows[i][k] ≥ cost.length
      · rw [all_false (f := fun r : List Int => r.all (testP cost.length)) hb (all_false (f := testP cost.length) hk (by simp [testP]; omega))]
        (try refine go ⟨?_⟩)
        refine ⟨by first | exact .inr rfl | exact .inl rfl, .inl ⟨[], _, (by dsimp only [Tryd.f46]; exact sv), ?_, by simp⟩⟩
        rfl
      have hn := all_take (f := testP cost.length) hk g3 (by simp [testP]; omega)
      (try refine go ⟨?_⟩)
      refine ⟨_, _, ?_, .refl _, k + 1, ⟨by omega, rfl, hn⟩, rfl, rfl, ?_, ?_, ?_, ?_⟩
      · omega
      all_goals rfl
    · rw [List.take_of_length_le (by omega)] at g3
      have hn := all_take (f := fun r : List Int => r.all (testP cost.length)) hb h3 g3
      (try refine go ⟨?_⟩)
      refine ⟨_, _, ?_, .refl _, i + 1, ⟨by omega, rfl, hn⟩, rfl, rfl, ?_, ?_, ?_⟩
      · omega
      all_goals rfl
  · rw [List.take_of_length_le (by omega)] at h3
    rw [h3]
    (try refine go ⟨?_⟩)
    refine ⟨by first | exact .inr rfl | exact .inl rfl, .inl ⟨[], _, (by dsimp only [Tryd.f46]; exact sv), ?_, by simp⟩⟩
    rfl
end Go.Proofs.YtgkhcjdpdgfdbaaDoor
namespace Go.Proofs.YtgkhcjdpdgfdbaaDoor
open Go Go.RowKit

attribute [local irreducible] EvOps EvC
attribute [local go_sem] List.flatten_cons List.flatten_nil List.contains_nil
set_option linter.unusedSimpArgs false
set_option linter.unusedVariables false
set_option maxRecDepth 100000
set_option maxHeartbeats 2000000
theorem possS_ok {rows : List (List Int)} {cost : List Int} (h : possS rows cost = true) : rows.length ≤ 512 ∧ CostOK cost ∧ ∀ r ∈ rows, In cost.length r := by
  simp only [possS, Bool.and_eq_true, decide_eq_true_eq, List.all_eq_true] at h
  obtain ⟨⟨⟨h1, h2⟩, h3⟩, h4⟩ := h
  exact ⟨h1, ⟨h2, h3⟩, h4⟩
theorem suiteS_in {rows : List (List Int)} {cost ts : List Int} (h : suiteS rows cost ts = true) : In cost.length ts := by
  have key : ∀ (ts : List Int) (a : Int), -1 ≤ a → incS cost.length a ts = true → In cost.length ts := by
    intro ts
    induction ts with
    | nil => intro a _ _ t ht; cases ht
    | cons t ts ih =>
      intro a ha h u hu
      simp only [incS, Bool.and_eq_true, decide_eq_true_eq] at h
      rcases List.mem_cons.1 hu with rfl | hu
      · omega
      · exact ih t (by omega) h.2 u hu
  simp only [suiteS, Bool.and_eq_true] at h
  exact key ts (-1) (by omega) h.1
theorem refCheck_ev (rows : List (List Int)) (cost ts : List Int) (c : Crt) (hr : rows.length < 1000000) (hrr : ∀ r ∈ rows, r.length < 1000000) (hc : cost.length < 1000000) (ht : ts.length < 1000000) (hz : csz c < 1000000) (sto : Sto) (lo : Nat) (hlo : lo ≤ sto.length) : CallEv Tryd.prog tab B0 25 [.v (LLI rows), .v (LI cost), .v (LI ts), .v (CV c)] sto lo (.v (VI (checkS rows cost ts c 0 1 22))) sto := by
  obtain ⟨r, p, k⟩ := c
  refine CallEv.intro ⟨_, _, [], Tryd.func25, rfl, by decide, ?_⟩; simp only [go_sem, Tryd.ntmps25]
  (try refine go ⟨?_⟩)
  ((refine call ?_); (refine ⟨_, refPossible_ev _ _ hr hrr hc _ _ (by first | omega | (simp; done) | (simp; omega)), ?_⟩); (try simp only [go_sem]))
  cases h1 : possS rows cost
  · (try refine go ⟨?_⟩)
    refine ⟨by first | exact .inr rfl | exact .inl rfl, .inl ⟨[], _, (by dsimp only [Tryd.f25]; exact sv), ?_, by simp⟩⟩
    simp [checkS, h1]
  obtain ⟨_, hcost, hin⟩ := possS_ok h1
  (try refine go ⟨?_⟩)
  ((refine call ?_); (refine ⟨_, refSuite_ev _ _ _ hr hrr hc ht _ _ (by first | omega | (simp; done) | (simp; omega)), ?_⟩); (try simp only [go_sem]))
  cases h2 : suiteS rows cost ts
  · (try refine go ⟨?_⟩)
    refine ⟨by first | exact .inr rfl | exact .inl rfl, .inl ⟨[], _, (by dsimp only [Tryd.f25]; exact sv), ?_, by simp⟩⟩
    simp [checkS, h1, h2]
  have hts := suiteS_in h2
  (try refine go ⟨?_⟩)
  ((refine call ?_); (refine ⟨_, refPrice_ev _ _ hcost hts ht _ _ (by first | omega | (simp; done) | (simp; omega)), ?_⟩); (try simp only [go_sem]))
  (try refine go ⟨?_⟩)
  ((refine call ?_); (refine ⟨_, refShows_ev rows cost (priceS cost ts) hr hrr hcost hin _ (.mk r p k) [] _ _ (Nat.le_refl _) (by simp; omega) (fun t h => by cases h) (by first | omega | (simp; done) | (simp; omega)), ?_⟩); (try simp only [go_sem]))
  cases h3 : showsS rows cost (priceS cost ts) (.mk r p k) []
  · (try refine go ⟨?_⟩)
    refine ⟨by first | exact .inr rfl | exact .inl rfl, .inl ⟨[], _, (by dsimp only [Tryd.f25]; exact sv), ?_, by simp⟩⟩
    simp [checkS, h1, h2, h3]
  · (try refine go ⟨?_⟩)
    refine ⟨by first | exact .inr rfl | exact .inl rfl, .inl ⟨[], _, (by dsimp only [Tryd.f25]; exact sv), ?_, by simp⟩⟩
    simp [checkS, h1, h2, h3]
end Go.Proofs.YtgkhcjdpdgfdbaaDoor
namespace Go.Proofs.YtgkhcjdpdgfdbaaDoor
theorem ofP_pos {rows : List (List Int)} {cost : List Int} (h : possS rows cost = true) : ofP rows cost = PV (rows.map maskS) cost := by
  rw [possP_eq] at h
  simp only [Bool.and_eq_true, Bool.not_eq_true', decide_eq_false_iff_not] at h
  rw [ofP, if_neg h.1, takeWhile_all (List.all_eq_true.1 h.2)]
theorem ofP_some (rows : List (List Int)) (cost : List Int) : ∃ ms, ofP rows cost = PV ms cost := by
  rw [ofP]; split
  · exact ⟨_, rfl⟩
  · exact ⟨_, rfl⟩
theorem maskOK {rows : List (List Int)} {cost : List Int} (h : possS rows cost = true) : MsOK (rows.map maskS) cost := by
  obtain ⟨h1, h2, h3⟩ := possS_ok h
  refine ⟨by simp; omega, fun r hr => ?_⟩
  obtain ⟨row, hrow, rfl⟩ := List.mem_map.1 hr
  exact mask_lt (h3 row hrow)
end Go.Proofs.YtgkhcjdpdgfdbaaDoor
namespace Go.Proofs.YtgkhcjdpdgfdbaaDoor
open Go Go.RowKit

attribute [local irreducible] EvOps EvC
attribute [local go_sem] List.getElem?_toArray
set_option linter.unusedSimpArgs false
set_option linter.unusedVariables false
set_option maxRecDepth 100000
set_option maxHeartbeats 4000000
def killN (ms : List Nat) (left : List Int) (t : Nat) : Nat := left.countP fun i => (mAt ms i).testBit t
abbrev GS := Int × Int
def gstep (ms : List Nat) (cost left : List Int) (s : GS) (t : Nat) : GS :=
  if killN ms left t = 0 then s
  else if s.1 < 0 ∨ (killN ms left t : Int) * cAt cost s.1 > s.2 * cAt cost t ∨ ((killN ms left t : Int) * cAt cost s.1 = s.2 * cAt cost t ∧ (killN ms left t : Int) > s.2) then ((t : Int), (killN ms left t : Int))
  else s
def gfold (ms : List Nat) (cost left : List Int) (t : Nat) : GS := (List.range t).foldl (gstep ms cost left) (-1, 0)
theorem gfold_succ (ms : List Nat) (cost left : List Int) (t : Nat) : gfold ms cost left (t + 1) = gstep ms cost left (gfold ms cost left t) t := by
  rw [gfold, List.range_succ, List.foldl_append]; rfl
theorem gfold_ok (ms : List Nat) (cost left : List Int) : ∀ t : Nat, -1 ≤ (gfold ms cost left t).1 ∧ (gfold ms cost left t).1 < t ∧ 0 ≤ (gfold ms cost left t).2 ∧ (gfold ms cost left t).2 ≤ left.length ∧ (0 ≤ (gfold ms cost left t).1 → 0 < killN ms left (gfold ms cost left t).1.toNat) ∧ ((gfold ms cost left t).1 < 0 → ∀ u, u < t → killN ms left u = 0)
  | 0 => by simp [gfold]
  | t + 1 => by
    obtain ⟨h1, h2, h3, h4, h5, h6⟩ := gfold_ok ms cost left t
    rw [gfold_succ, gstep]
    have hk : killN ms left t ≤ left.length := List.countP_le_length
    split
    · rename_i h0
      refine ⟨h1, by omega, h3, h4, h5, fun h u hu => ?_⟩
      rcases Nat.lt_succ_iff_lt_or_eq.1 hu with h7 | rfl
      · exact h6 h u h7
      · exact h0
    · rename_i h0
      split
      · refine ⟨by show -1 ≤ (t : Int); omega, by show (t : Int) < _; omega, by show 0 ≤ (_ : Int); omega, by show (_ : Int) ≤ _; omega, fun _ => by show 0 < killN ms left (t : Int).toNat; rw [Int.toNat_natCast]; omega, fun h => by have h : (t : Int) < 0 := h; omega⟩
      · rename_i h7
        refine ⟨h1, by omega, h3, h4, h5, fun h => ?_⟩
        exact absurd (.inl h) h7
/-- Greedy, with so many steps at most. -/
def greedyF (ms : List Nat) (cost : List Int) : Nat → Nat → Nat
  | 0, b => b
  | f + 1, b => if leftN ms b = [] then b else greedyF ms cost f (b ||| 2 ^ (gfold ms cost (ints (leftN ms b)) cost.length).1.toNat)
def greedyN (ms : List Nat) (cost : List Int) : Nat := greedyF ms cost (ms.length + 1) 0
theorem bit_or_lt {a t n : Nat} (ha : a < 2 ^ n) (ht : t < n) : a ||| 2 ^ t < 2 ^ n := Nat.or_lt_two_pow ha (Nat.pow_lt_pow_right (by omega) ht)
theorem getD_mAt (ms : List Nat) (i : Nat) : ms.getD i 0 = mAt ms (i : Int) := rfl
theorem and_zero_bit {a b : Nat} : a &&& b = 0 ↔ ∀ j, a.testBit j = true → b.testBit j = false := by
  constructor
  · intro h j h1
    have := Nat.testBit_and a b j
    rw [h, h1, Nat.zero_testBit, Bool.true_and] at this
    exact this.symm
  · intro h
    apply Nat.eq_of_testBit_eq
    intro j
    rw [Nat.testBit_and, Nat.zero_testBit]
    cases h1 : a.testBit j with
    | false => rfl
    | true => rw [h j h1]; rfl
theorem leftN_or (ms : List Nat) (b t : Nat) : leftN ms (b ||| 2 ^ t) = (leftN ms b).filter fun i : Nat => !(mAt ms (i : Int)).testBit t := by
  unfold leftN
  rw [List.filter_filter]
  refine List.filter_congr fun i hi => ?_
  rw [getD_mAt]
  generalize mAt ms (i : Int) = m
  have h1 : decide (m &&& (b ||| 2 ^ t) = 0) = (!m.testBit t && decide (m &&& b = 0)) := by
    rw [Bool.eq_iff_iff]
    simp only [decide_eq_true_eq, Bool.and_eq_true, Bool.not_eq_true']
    rw [and_zero_bit, and_zero_bit]
    constructor
    · intro h
      refine ⟨?_, fun j hj => ?_⟩
      · cases h2 : m.testBit t with
        | false => rfl
        | true => have := h t h2; rw [Nat.testBit_or, Nat.testBit_two_pow_self] at this; simp at this
      · have := h j hj; rw [Nat.testBit_or, Bool.or_eq_false_iff] at this; exact this.1
    · rintro ⟨h2, h3⟩ j hj
      rw [Nat.testBit_or, h3 j hj, Bool.false_or, Nat.testBit_two_pow, decide_eq_false_iff_not]
      rintro rfl
      rw [hj] at h2; cases h2
  rw [h1]
  cases m.testBit t <;> simp
theorem killN_ints (ms : List Nat) (l : List Nat) (t : Nat) : killN ms (ints l) t = l.countP fun i : Nat => (mAt ms (i : Int)).testBit t := by
  rw [killN, ints, List.countP_map]; rfl
theorem left_shorter {ms : List Nat} {cost : List Int} (hm : MsOK ms cost) {b : Nat} (h : leftN ms b ≠ []) : 0 ≤ (gfold ms cost (ints (leftN ms b)) cost.length).1 ∧ (leftN ms (b ||| 2 ^ (gfold ms cost (ints (leftN ms b)) cost.length).1.toNat)).length < (leftN ms b).length := by
  obtain ⟨h1, h2, h3, h4, h5, h6⟩ := gfold_ok ms cost (ints (leftN ms b)) cost.length
  generalize gfold ms cost (ints (leftN ms b)) cost.length = g at *
  have h0 : 0 ≤ g.1 := by
    rcases Int.lt_or_le g.1 0 with hg | hg
    · exfalso
      have h7 := h6 hg
      obtain ⟨i, hi⟩ := List.exists_mem_of_ne_nil _ h
      have hf := (List.mem_filter.1 hi).2
      rw [getD_mAt] at hf
      simp only [Bool.and_eq_true, decide_eq_true_eq] at hf
      apply hf.1
      apply Nat.eq_of_testBit_eq
      intro j
      rw [Nat.zero_testBit]
      rcases Nat.lt_or_ge j cost.length with hj | hj
      · have := h7 j hj
        rw [killN_ints, List.countP_eq_zero] at this
        simpa using this i hi
      · exact Nat.testBit_lt_two_pow (Nat.lt_of_lt_of_le (mAt_lt hm i) (Nat.pow_le_pow_right (by omega) hj))
    · exact hg
  refine ⟨h0, ?_⟩
  have h8 := h5 h0
  rw [killN_ints] at h8
  rw [leftN_or]
  generalize leftN ms b = l at *
  have h9 := @List.length_eq_countP_add_countP Nat (fun i : Nat => (mAt ms (i : Int)).testBit g.1.toNat) l
  rw [← List.countP_eq_length_filter]
  have h10 : List.countP (fun a : Nat => decide ¬(mAt ms (a : Int)).testBit g.1.toNat = true) l = List.countP (fun i : Nat => !(mAt ms (i : Int)).testBit g.1.toNat) l := by
    refine List.countP_congr fun i _ => ?_
    simp
  omega
theorem greedyF_stop {ms : List Nat} {cost : List Int} {f b : Nat} (h : leftN ms b = []) : greedyF ms cost f b = b := by
  cases f with
  | zero => rfl
  | succ f => rw [greedyF, if_pos h]
theorem shrU {m t : Nat} (ht : t < 64) : ((m : Int).fdiv (2 ^ min (t : Int).toNat 64)) = ((m >>> t : Nat) : Int) := by
  rw [Int.toNat_natCast, Nat.min_eq_left (by omega), Nat.shiftRight_eq_div_pow, Int.fdiv_eq_ediv_of_nonneg _ (by exact_mod_cast Nat.zero_le _)]
  simp
theorem bitOne (m t : Nat) : (m >>> t) &&& 1 = if m.testBit t then 1 else 0 := by
  rw [Nat.and_one_is_mod, Nat.testBit_eq_decide_div_mod_eq, Nat.shiftRight_eq_div_pow]
  by_cases h : m / 2 ^ t % 2 = 1
  · simp [h]
  · simp [h]; omega
end Go.Proofs.YtgkhcjdpdgfdbaaDoor
namespace Go.Proofs.YtgkhcjdpdgfdbaaDoor
/-- Used, pack, sum. -/
abbrev KS := Nat × List Int × Int
def pstep (ms : List Nat) (cost : List Int) (s : KS) (i : Int) : KS :=
  if mAt ms i &&& s.1 = 0 then (s.1 ||| mAt ms i, s.2.1 ++ [i], s.2.2 + cheapS cost (ints (bitsN (mAt ms i)))) else s
def pfold (ms : List Nat) (cost : List Int) (px : Int) (left : List Int) : KS := left.foldl (pstep ms cost) (0, [], px)
theorem pfold_take (ms : List Nat) (cost : List Int) (px : Int) {left : List Int} {i : Nat} (h : i < left.length) : pfold ms cost px (left.take (i + 1)) = pstep ms cost (pfold ms cost px (left.take i)) left[i] := by
  rw [List.take_succ_eq_append_getElem h, pfold, List.foldl_append]; rfl
/-- The row that branches. -/
def onesD (ms : List Nat) (x y : Int) : Int := ((bitsN (mAt ms x)).length : Int) - ((bitsN (mAt ms y)).length : Int)
def minRow (ms : List Nat) : List Int → Int
  | [] => 0
  | x :: xs => minByI (onesD ms) x xs
def showC (ms : List Nat) (cost : List Int) (bound : Int) : Nat → Nat → Crt
  | 0, _ => .mk 0 [] []
  | f + 1, b =>
    if (pfold ms cost (priceS cost (ints (bitsN b))) (ints (leftN ms b))).2.2 ≥ bound then .mk 0 (pfold ms cost (priceS cost (ints (bitsN b))) (ints (leftN ms b))).2.1 []
    else .mk (minRow ms (ints (leftN ms b))) [] ((bitsN (mAt ms (minRow ms (ints (leftN ms b))))).map fun t => showC ms cost bound f (b ||| 2 ^ t))
def miss (n b : Nat) : Nat := (List.range n).countP fun t => !b.testBit t
theorem miss_lt {n b t : Nat} (ht : t < n) (hb : b.testBit t = false) : miss n (b ||| 2 ^ t) < miss n b := by
  unfold miss
  have h1 : ∀ l : List Nat, l.countP (fun t' => !(b ||| 2 ^ t).testBit t') ≤ l.countP (fun t => !b.testBit t) := by
    intro l
    refine List.countP_mono_left fun x _ h => ?_
    rw [Nat.testBit_or] at h
    simp only [Bool.not_eq_true', Bool.or_eq_false_iff] at h ⊢
    exact h.1
  have h2 : ∀ l : List Nat, t ∈ l → l.countP (fun t' => !(b ||| 2 ^ t).testBit t') < l.countP (fun t => !b.testBit t) := by
    intro l
    induction l with
    | nil => intro h; cases h
    | cons x l ih =>
      intro h
      rw [List.countP_cons, List.countP_cons]
      have h3 := h1 l
      by_cases hx : x = t
      · subst hx
        rw [if_neg (by rw [Nat.testBit_or, Nat.testBit_two_pow_self]; simp), if_pos (by rw [hb]; rfl)]
        omega
      · have h4 := ih (by rcases List.mem_cons.1 h with h | h; exact absurd h.symm hx; exact h)
        have h5 : (!(b ||| 2 ^ t).testBit x) = !b.testBit x := by
          rw [Nat.testBit_or, Nat.testBit_two_pow, decide_eq_false (fun h => hx h.symm), Bool.or_false]
        rw [h5]
        omega
  exact h2 _ (List.mem_range.2 ht)
theorem minByI_mem (c : Int → Int → Int) : ∀ (xs : List Int) (x : Int), minByI c x xs = x ∨ minByI c x xs ∈ xs
  | [], x => .inl rfl
  | y :: xs, x => by
    rw [minByI, List.foldl_cons, ← minByI]
    rcases minByI_mem c xs (if c y x < 0 then y else x) with h | h
    · rw [h]
      split
      · exact .inr (by simp)
      · exact .inl rfl
    · exact .inr (by simp [h])
theorem minRow_mem {ms : List Nat} {l : List Int} (h : l ≠ []) : minRow ms l ∈ l := by
  cases l with
  | nil => exact absurd rfl h
  | cons x xs =>
    rw [minRow]
    rcases minByI_mem (onesD ms) xs x with h | h
    · rw [h]; simp
    · simp [h]
theorem leftN_and {ms : List Nat} {b : Nat} {i : Int} (h : i ∈ ints (leftN ms b)) : mAt ms i &&& b = 0 := by
  obtain ⟨j, hj, rfl⟩ := List.mem_map.1 h
  have := (List.mem_filter.1 hj).2
  simp only [Bool.and_eq_true, decide_eq_true_eq] at this
  exact this.2
end Go.Proofs.YtgkhcjdpdgfdbaaDoor
