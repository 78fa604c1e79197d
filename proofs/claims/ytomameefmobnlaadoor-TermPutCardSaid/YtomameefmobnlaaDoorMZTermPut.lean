/-
  Terms: the law TermPut. No condition of its own. TermPut of layer 20: whatever the input, it returns true. The card ties word's table of operations to the program's text.
-/
import Derived.Test.YtomameefmobnlaaDoorM12
import Derived.Test.YtomameefmobnlaaDoorM14
import Derived.Test.YtomameefmobnlaaDoorM7
import Derived.Test.YtomameefmobnlaaDoorCards
import Derived.Test.YtomameefmobnlaaDoorTie
import Derived.Test.YtomameefmobnlaaDoorM2
import Derived.SevenTiedAt
namespace Go.Proofs.YtomameefmobnlaaDoor
open Go Go.RowKit

attribute [local irreducible] EvOps EvC
attribute [local go_sem] List.getElem?_toArray getS List.flatten_cons List.flatten_nil List.contains_nil List.append_nil List.length_set mapSet List.set_set
theorem tqgo {p q : Prop} (k : Later q) (h : Later q → p := by (intro k; (first | with_reducible (first | refine c_seq ?_ | refine c_block ?_ | refine c_region ?_ | refine c_skip ?_ | refine c_exit ?_ | refine c_ret ?_ | refine then_normal ?_ | refine then_exit ?_ | refine then_ret ?_ | refine block_normal ?_ | refine block_here ?_ | refine block_ret ?_ | refine block_far (by decide) ?_ | refine ops_nil ?_ | refine c_cond_t rfl ?_ | refine c_cond_f rfl ?_) | ((with_reducible apply ops_pure); rfl; (simp (disch := (first | omega | assumption | ((repeat' with_reducible apply And.intro) <;> first | omega | assumption | rfl | (apply Or.inl; rfl) | (apply Or.inr; first | rfl | trivial | fail) | fail) | fail)) only [go_sem, if_pos, if_neg, wrapI, wrapU, decide_eq_true, decide_eq_false, beqT, beqF, bneT, bneF, hcc] <;> rfl); simp only [go_sem]) | ((with_reducible apply ops_pureF); rfl; (intro _; simp (disch := (first | omega | assumption | ((repeat' with_reducible apply And.intro) <;> first | omega | assumption | rfl | (apply Or.inl; rfl) | (apply Or.inr; first | rfl | trivial | fail) | fail) | fail)) only [go_sem, if_pos, if_neg, wrapI, wrapU, decide_eq_true, decide_eq_false, beqT, beqF, bneT, bneF, hcc] <;> rfl); simp only [go_sem]) | ((with_reducible apply ops_pureD); kernel_rfl; rfl; (simp (disch := (first | omega | assumption | ((repeat' with_reducible apply And.intro) <;> first | omega | assumption | rfl | (apply Or.inl; rfl) | (apply Or.inr; first | rfl | trivial | fail) | fail) | fail)) only [go_sem, if_pos, if_neg, wrapI, wrapU, decide_eq_true, decide_eq_false, beqT, beqF, bneT, bneF, hcc] <;> rfl); simp only [go_sem]) | ((with_reducible apply ops_skip); rfl; simp only [go_sem]) | ((with_reducible apply c_regionD); kernel_rfl) | ((with_reducible apply ops_eff); decide; rfl; (simp (disch := (first | omega | assumption | ((repeat' with_reducible apply And.intro) <;> first | omega | assumption | rfl | (apply Or.inl; rfl) | (apply Or.inr; first | rfl | trivial | fail) | fail) | fail)) only [go_sem, if_pos, if_neg, wrapI, wrapU, decide_eq_true, decide_eq_false, beqT, beqF, bneT, bneF, hcc] <;> rfl); simp only [go_sem])); (repeat (first | with_reducible (first | refine c_seq ?_ | refine c_block ?_ | refine c_region ?_ | refine c_skip ?_ | refine c_exit ?_ | refine c_ret ?_ | refine then_normal ?_ | refine then_exit ?_ | refine then_ret ?_ | refine block_normal ?_ | refine block_here ?_ | refine block_ret ?_ | refine block_far (by decide) ?_ | refine ops_nil ?_ | refine c_cond_t rfl ?_ | refine c_cond_f rfl ?_) | ((with_reducible apply ops_pure); rfl; (simp (disch := (first | omega | assumption | ((repeat' with_reducible apply And.intro) <;> first | omega | assumption | rfl | (apply Or.inl; rfl) | (apply Or.inr; first | rfl | trivial | fail) | fail) | fail)) only [go_sem, if_pos, if_neg, wrapI, wrapU, decide_eq_true, decide_eq_false, beqT, beqF, bneT, bneF, hcc] <;> rfl); simp only [go_sem]) | ((with_reducible apply ops_pureF); rfl; (intro _; simp (disch := (first | omega | assumption | ((repeat' with_reducible apply And.intro) <;> first | omega | assumption | rfl | (apply Or.inl; rfl) | (apply Or.inr; first | rfl | trivial | fail) | fail) | fail)) only [go_sem, if_pos, if_neg, wrapI, wrapU, decide_eq_true, decide_eq_false, beqT, beqF, bneT, bneF, hcc] <;> rfl); simp only [go_sem]) | ((with_reducible apply ops_pureD); kernel_rfl; rfl; (simp (disch := (first | omega | assumption | ((repeat' with_reducible apply And.intro) <;> first | omega | assumption | rfl | (apply Or.inl; rfl) | (apply Or.inr; first | rfl | trivial | fail) | fail) | fail)) only [go_sem, if_pos, if_neg, wrapI, wrapU, decide_eq_true, decide_eq_false, beqT, beqF, bneT, bneF, hcc] <;> rfl); simp only [go_sem]) | ((with_reducible apply ops_skip); rfl; simp only [go_sem]) | ((with_reducible apply c_regionD); kernel_rfl) | ((with_reducible apply ops_eff); decide; rfl; (simp (disch := (first | omega | assumption | ((repeat' with_reducible apply And.intro) <;> first | omega | assumption | rfl | (apply Or.inl; rfl) | (apply Or.inr; first | rfl | trivial | fail) | fail) | fail)) only [go_sem, if_pos, if_neg, wrapI, wrapU, decide_eq_true, decide_eq_false, beqT, beqF, bneT, bneF, hcc] <;> rfl); simp only [go_sem]))); exact k.get)) : p := h k
theorem tqgoX {p q : Prop} (k : Later q) (h : Later q → p := by (intro k; (first | with_reducible (first | refine c_seq ?_ | refine c_block ?_ | refine c_skip ?_ | refine c_exit ?_ | refine c_ret ?_ | refine then_normal ?_ | refine then_exit ?_ | refine then_ret ?_ | refine block_normal ?_ | refine block_here ?_ | refine block_ret ?_ | refine block_far (by decide) ?_ | refine ops_nil ?_ | refine c_cond_t rfl ?_ | refine c_cond_f rfl ?_) | ((with_reducible apply ops_pure); rfl; (simp (disch := (first | omega | assumption | ((repeat' with_reducible apply And.intro) <;> first | omega | assumption | rfl | (apply Or.inl; rfl) | (apply Or.inr; first | rfl | trivial | fail) | fail) | fail)) only [go_sem, if_pos, if_neg, wrapI, wrapU, decide_eq_true, decide_eq_false, beqT, beqF, bneT, bneF, hcc] <;> rfl); simp only [go_sem]) | ((with_reducible apply ops_pureF); rfl; (intro _; simp (disch := (first | omega | assumption | ((repeat' with_reducible apply And.intro) <;> first | omega | assumption | rfl | (apply Or.inl; rfl) | (apply Or.inr; first | rfl | trivial | fail) | fail) | fail)) only [go_sem, if_pos, if_neg, wrapI, wrapU, decide_eq_true, decide_eq_false, beqT, beqF, bneT, bneF, hcc] <;> rfl); simp only [go_sem]) | ((with_reducible apply ops_pureD); kernel_rfl; rfl; (simp (disch := (first | omega | assumption | ((repeat' with_reducible apply And.intro) <;> first | omega | assumption | rfl | (apply Or.inl; rfl) | (apply Or.inr; first | rfl | trivial | fail) | fail) | fail)) only [go_sem, if_pos, if_neg, wrapI, wrapU, decide_eq_true, decide_eq_false, beqT, beqF, bneT, bneF, hcc] <;> rfl); simp only [go_sem]) | ((with_reducible apply ops_skip); rfl; simp only [go_sem]) | ((with_reducible apply c_regionD); kernel_rfl) | ((with_reducible apply ops_eff); decide; rfl; (simp (disch := (first | omega | assumption | ((repeat' with_reducible apply And.intro) <;> first | omega | assumption | rfl | (apply Or.inl; rfl) | (apply Or.inr; first | rfl | trivial | fail) | fail) | fail)) only [go_sem, if_pos, if_neg, wrapI, wrapU, decide_eq_true, decide_eq_false, beqT, beqF, bneT, bneF, hcc] <;> rfl); simp only [go_sem])); (repeat (first | with_reducible (first | refine c_seq ?_ | refine c_block ?_ | refine c_skip ?_ | refine c_exit ?_ | refine c_ret ?_ | refine then_normal ?_ | refine then_exit ?_ | refine then_ret ?_ | refine block_normal ?_ | refine block_here ?_ | refine block_ret ?_ | refine block_far (by decide) ?_ | refine ops_nil ?_ | refine c_cond_t rfl ?_ | refine c_cond_f rfl ?_) | ((with_reducible apply ops_pure); rfl; (simp (disch := (first | omega | assumption | ((repeat' with_reducible apply And.intro) <;> first | omega | assumption | rfl | (apply Or.inl; rfl) | (apply Or.inr; first | rfl | trivial | fail) | fail) | fail)) only [go_sem, if_pos, if_neg, wrapI, wrapU, decide_eq_true, decide_eq_false, beqT, beqF, bneT, bneF, hcc] <;> rfl); simp only [go_sem]) | ((with_reducible apply ops_pureF); rfl; (intro _; simp (disch := (first | omega | assumption | ((repeat' with_reducible apply And.intro) <;> first | omega | assumption | rfl | (apply Or.inl; rfl) | (apply Or.inr; first | rfl | trivial | fail) | fail) | fail)) only [go_sem, if_pos, if_neg, wrapI, wrapU, decide_eq_true, decide_eq_false, beqT, beqF, bneT, bneF, hcc] <;> rfl); simp only [go_sem]) | ((with_reducible apply ops_pureD); kernel_rfl; rfl; (simp (disch := (first | omega | assumption | ((repeat' with_reducible apply And.intro) <;> first | omega | assumption | rfl | (apply Or.inl; rfl) | (apply Or.inr; first | rfl | trivial | fail) | fail) | fail)) only [go_sem, if_pos, if_neg, wrapI, wrapU, decide_eq_true, decide_eq_false, beqT, beqF, bneT, bneF, hcc] <;> rfl); simp only [go_sem]) | ((with_reducible apply ops_skip); rfl; simp only [go_sem]) | ((with_reducible apply c_regionD); kernel_rfl) | ((with_reducible apply ops_eff); decide; rfl; (simp (disch := (first | omega | assumption | ((repeat' with_reducible apply And.intro) <;> first | omega | assumption | rfl | (apply Or.inl; rfl) | (apply Or.inr; first | rfl | trivial | fail) | fail) | fail)) only [go_sem, if_pos, if_neg, wrapI, wrapU, decide_eq_true, decide_eq_false, beqT, beqF, bneT, bneF, hcc] <;> rfl); simp only [go_sem]))); exact k.get)) : p := h k
theorem tqsv {p : Prop} (h : p := by simp (disch := (first | omega | assumption | ((repeat' with_reducible apply And.intro) <;> first | omega | assumption | rfl | (apply Or.inl; rfl) | (apply Or.inr; first | rfl | trivial | fail) | fail) | fail)) only [go_sem, if_pos, if_neg, wrapI, wrapU, decide_eq_true, decide_eq_false, beqT, beqF, bneT, bneF, hcc] <;> rfl) : p := h
theorem tqcall {T : Tab} {X : CallP} {n0 lo : Nat} {wt : List Tmp} {draw : Bool} {ops : Array Oper} {Q : St → Prop} {rest : List Oper} {o : Oper} {env : List D} {sto : Sto} {f : FuncId} {args : List D} (k : ∃ r, X f args sto (if draw then sto.length else lo) r sto ∧ EvOps T X n0 lo wt draw ops Q rest (St.put ⟨env, sto⟩ o.dst r)) (hg : guardD ops o env = some true := by rfl) (h : evCallee (opd env) sto o = some (f, args) := by simp (disch := (first | omega | assumption | ((repeat' with_reducible apply And.intro) <;> first | omega | assumption | rfl | (apply Or.inl; rfl) | (apply Or.inr; first | rfl | trivial | fail) | fail) | fail)) only [go_sem, if_pos, if_neg, wrapI, wrapU, decide_eq_true, decide_eq_false, beqT, beqF, bneT, bneF, hcc] <;> rfl) : EvOps T X n0 lo wt draw ops Q (o :: rest) ⟨env, sto⟩ := k.elim fun _ k => ops_call hg h k.1 k.2
set_option linter.unusedSimpArgs false
set_option linter.unusedVariables false
set_option maxRecDepth 100000
set_option maxHeartbeats 8000000
theorem tdivBig {x : Int} (h : Big x) (c : Int) (hc : c = 2 ∨ c = 4 ∨ c = 8) : Big (Int.tdiv x c) := by
  obtain ⟨h1, h2⟩ := h
  rcases hc with rfl | rfl | rfl
  all_goals
    by_cases h0 : 0 ≤ x
    · rw [Int.tdiv_eq_ediv_of_nonneg h0]; exact ⟨by omega, by omega⟩
    · obtain ⟨y, rfl⟩ : ∃ y, x = -y := ⟨-x, by omega⟩
      rw [Int.neg_tdiv, Int.tdiv_eq_ediv_of_nonneg (by omega)]; exact ⟨by omega, by omega⟩
theorem smallBig {x : Int} (h : -100000 ≤ x ∧ x ≤ 100000) : Big x := ⟨by omega, by omega⟩
theorem termPut_ev (l : List Int) (kind : Int) (a b : List Int) (kinds n : Int) (hl : NumL l) (hk : Big kind) (ha : NumL a) (hb : NumL b) (hks : Big kinds) (hn : Big n) (sto : Sto) (lo : Nat) (hlo : lo ≤ sto.length) : CallEv Tryd.prog tab sortB 5 [.v (LI l), .v (VI kind), .v (LI a), .v (LI b), .v (VI kinds), .v (VI n)] sto lo (.v (.bool true)) sto := by
  have hlv : ∀ (sto : Sto) (lo : Nat), lo ≤ sto.length → CallEv Tryd.prog tab sortB 15 [] sto lo (.v (.bool true)) sto := fun sto lo hlo => livesV_ev valid_ev sto lo hlo
  have ht := fun sto lo hlo => (term_ev l kind hl hk sto lo hlo).up0 (B := sortB)
  have b2 := tdivBig hks 2 (by simp)
  have b4 := tdivBig hks 4 (by simp)
  have b8 := tdivBig hks 8 (by simp)
  have t0 := fun sto lo hlo => (term_ev a kinds ha hks sto lo hlo).up0 (B := sortB)
  have t1 := fun sto lo hlo => (term_ev b (kinds.tdiv 2) hb b2 sto lo hlo).up0 (B := sortB)
  have t2 := fun sto lo hlo => (term_ev a (kinds.tdiv 4) ha b4 sto lo hlo).up0 (B := sortB)
  have t3 := fun sto lo hlo => (term_ev b (kinds.tdiv 8) hb b8 sto lo hlo).up0 (B := sortB)
  have har := fun sto lo hlo => (around_ev n 5 hn (by omega) (by omega) sto lo hlo).up0 (B := sortB)
  have hcb := aroundS_bound (n := n) (most := 5) (by omega)
  have hv1 := fun sto lo hlo => (values_ev n hn sto lo hlo).up0 (B := sortB)
  have hv2 := fun sto lo hlo => (valuesW_ev n hn sto lo hlo).up0 (B := sortB)
  have hvb := valuesS_bound n
  have hvl := valuesS_length n
  obtain ⟨hw, hsz⟩ := term_ok l kind
  have hok := term_vars l kind
  have hLs : ∀ x ∈ [termS a kinds, termS b (kinds.tdiv 2), termS a (kinds.tdiv 4), termS b (kinds.tdiv 8)], (∃ k, Wt k x ∧ VarOK x) ∧ tsz x ≤ 121 := by
    intro x hx
    simp only [List.mem_cons, List.not_mem_nil, or_false] at hx
    rcases hx with rfl | rfl | rfl | rfl
    all_goals exact ⟨⟨_, (term_ok _ _).1, term_vars _ _⟩, (term_ok _ _).2⟩
  generalize valuesS n = vals at *
  generalize termS l kind = t at *
  generalize termS a kinds = x0 at *
  generalize termS b (kinds.tdiv 2) = x1 at *
  generalize termS a (kinds.tdiv 4) = x2 at *
  generalize termS b (kinds.tdiv 8) = x3 at *
  generalize aroundS n 5 = c at *
  obtain ⟨hc0, hc5⟩ := hcb
  obtain ⟨c, rfl⟩ := Int.eq_ofNat_of_zero_le hc0
  obtain ⟨L, hLd⟩ : ∃ L, L = [x0, x1, x2, x3].take c := ⟨_, rfl⟩
  have hLm : ∀ x ∈ L, (∃ k, Wt k x ∧ VarOK x) ∧ tsz x ≤ 121 := fun x hx => hLs x (List.mem_of_mem_take (hLd ▸ hx))
  have hLlen : L.length = c := by rw [hLd, List.length_take]; simp; omega
  have hLcells : (cellsTs [x0, x1, x2, x3]).take (c * 4) = cellsTs L := by rw [cellsTs_take, hLd]
  have hLz : tszs L ≤ 1000 := by
    have := tszs_le 121 L fun x hx => (hLm x hx).2
    have h2 : L.length * 121 ≤ 4 * 121 := Nat.mul_le_mul_right _ (by omega)
    omega
  have hnv : ∀ p ∈ varP t, 0 ≤ p.1 ∧ 0 ≤ p.2 := fun p hp => by have := hok p hp; omega
  have hpz : tsz (putS L t) ≤ 14641 := by
    have h1 := tsz_put L 121 (by omega) (fun x hx => (hLm x hx).2) t
    have h2 : tsz t * 121 ≤ 121 * 121 := Nat.mul_le_mul_right _ hsz
    omega
  have hp := fun sto lo hlo => (putV_ev valid_ev t L (by omega) (by omega) (fun p hp => (hnv p hp).1) sto lo hlo).up0 (B := sortB)
  have hrp := fun sto lo hlo => (rPut_ev L (by omega) (tsz t) t sto lo (Nat.le_refl _) (by omega) hnv hlo).up0 (B := sortB)
  have hsm := fun sto lo hlo => (same_ev (putS L t) (putS L t) (by omega) sto lo hlo).up0 (B := sortB)
  rw [decide_eq_true ((cmpT_zero _ _).2 rfl)] at hsm
  have hpw := put_wt L hw
  have hvbig : ∀ x ∈ vals, Big x := fun x hx => smallBig (by have := hvb x hx; omega)
  have hep := fun sto lo hlo => (eval_ev vals hvbig (by rw [hvl]; decide) hpw sto lo hlo).up0 (B := sortB)
  have het := fun (xs : List Int) (h1 : ∀ x ∈ xs, Big x) (h2 : xs.length = 4) sto lo hlo => (eval_ev xs h1 (by rw [h2]; decide) hw sto lo hlo).up0 (B := sortB)
  have hval := fun xs hx => put_value hw hok L (fun x hx => (hLm x hx).1) vals xs hx
  have hLe : ∀ x ∈ L, (∀ sto lo, lo ≤ sto.length → CallEv Tryd.prog tab sortB 20 [.v (TV x), .v (LI vals)] sto lo (.v (VI (evalS vals x))) sto) ∧ (∀ sto lo, lo ≤ sto.length → CallEv Tryd.prog tab sortB 23 [.v (TV x)] sto lo (.v (VI (typeR x))) sto) ∧ Big (evalS vals x) := by
    intro x hx
    obtain ⟨⟨k, h1, h2⟩, h3⟩ := hLm x hx
    exact ⟨fun sto lo hlo => (eval_ev vals hvbig (by rw [hvl]; decide) h1 sto lo hlo).up0, fun sto lo hlo => (type_ev (tsz x) x sto lo (Nat.le_refl _) (by omega) hlo).up0, smallBig (by have := eval_range h1 vals; omega)⟩
  clear hl hk ha hb hks hn hok hsz hw hnv hpz hpw hLm hLs hLz hLd hvb
  obtain ⟨b2a, b2b⟩ := b2
  obtain ⟨b4a, b4b⟩ := b4
  obtain ⟨b8a, b8b⟩ := b8
  generalize evalS vals (putS L t) = ve at *
  generalize putS L t = p at *
  have hcc : True := trivial
  obtain ⟨ka, na, ma, la⟩ := x0
  obtain ⟨kb, nb, mb, lb⟩ := x1
  obtain ⟨kc, nc, mc, lc⟩ := x2
  obtain ⟨kd, nd, md, ld⟩ := x3
  subst hLlen
  simp only [cellsTs, cellsT, List.cons_append, List.nil_append, List.append_nil] at hLcells
  obtain ⟨k0, n0, m0, l0⟩ := t
  obtain ⟨k1, n1, m1, l1⟩ := p
  refine CallEv.intro ⟨_, _, [], Tryd.func5, rfl, by decide, ?_⟩; simp only [go_sem, Tryd.ntmps5]
  repeat' (first | (refine tqgo ⟨?_⟩) | (first | ((refine tqcall ?_); (refine ⟨_, ht _ _ (by first | omega | (simp; done) | (simp; omega)), ?_⟩); (try simp only [go_sem])) | ((refine tqcall ?_); (refine ⟨_, t0 _ _ (by first | omega | (simp; done) | (simp; omega)), ?_⟩); (try simp only [go_sem])) | ((refine tqcall ?_); (refine ⟨_, t1 _ _ (by first | omega | (simp; done) | (simp; omega)), ?_⟩); (try simp only [go_sem])) | ((refine tqcall ?_); (refine ⟨_, t2 _ _ (by first | omega | (simp; done) | (simp; omega)), ?_⟩); (try simp only [go_sem])) | ((refine tqcall ?_); (refine ⟨_, t3 _ _ (by first | omega | (simp; done) | (simp; omega)), ?_⟩); (try simp only [go_sem])) | ((refine tqcall ?_); (refine ⟨_, har _ _ (by first | omega | (simp; done) | (simp; omega)), ?_⟩); (try simp only [go_sem]))) | ((first | (refine bsp ?_ ?_) | (refine csp ?_ ?_)); all_goals (intro hb; (fail_if_success (cases hb; done)); (try simp only [decide_eq_true_eq, decide_eq_false_iff_not, beq_iff_eq, bne_iff_ne, ne_eq, beq_eq_false_iff_ne, bne_eq_false_iff_eq, Bool.not_eq_true', Bool.not_eq_false', Bool.and_eq_true, Bool.or_eq_true, Decidable.not_not] at hb); (try simp only [go_sem]))))
  simp only [Nat.sub_zero, hLcells]
  repeat' (first | (refine tqgo ⟨?_⟩) | (first | ((refine tqcall ?_); (refine ⟨_, hp _ _ (by first | omega | (simp; done) | (simp; omega)), ?_⟩); (try simp only [go_sem])) | ((refine tqcall ?_); (refine ⟨_, hrp _ _ (by first | omega | (simp; done) | (simp; omega)), ?_⟩); (try simp only [go_sem])) | ((refine tqcall ?_); (refine ⟨_, hsm _ _ (by first | omega | (simp; done) | (simp; omega)), ?_⟩); (try simp only [go_sem]))) | ((first | (refine bsp ?_ ?_) | (refine csp ?_ ?_)); all_goals (intro hb; (fail_if_success (cases hb; done)); (try simp only [decide_eq_true_eq, decide_eq_false_iff_not, beq_iff_eq, bne_iff_ne, ne_eq, beq_eq_false_iff_ne, bne_eq_false_iff_eq, Bool.not_eq_true', Bool.not_eq_false', Bool.and_eq_true, Bool.or_eq_true, Decidable.not_not] at hb); (try simp only [go_sem]))))
  ((refine tqcall ?_); (refine ⟨_, hv1 _ _ (by first | omega | (simp; done) | (simp; omega)), ?_⟩); (try simp only [go_sem]))
  (try refine tqgo ⟨?_⟩)
  ((with_reducible apply ops_callW); rfl; (simp (disch := (first | omega | assumption | ((repeat' with_reducible apply And.intro) <;> first | omega | assumption | rfl | (apply Or.inl; rfl) | (apply Or.inr; first | rfl | trivial | fail) | fail) | fail)) only [go_sem, if_pos, if_neg, wrapI, wrapU, decide_eq_true, decide_eq_false, beqT, beqF, bneT, bneF, hcc] <;> rfl); (exact hv2 _ _ (by first | omega | (simp; done) | (simp; omega))); ((try simp only [go_sem]); (first | exact ho_arr | exact ho_arr2 | exact ho_map | exact ho_app (by first | omega | (simp; done) | (simp; omega)) | exact ho_app2 (by first | omega | (simp; done) | (simp; omega)))); (try simp only [go_sem]))
  (try refine tqgo ⟨?_⟩)
  clear t0 t1 t2 t3 har hp hrp hsm hv1 hv2 ht hLcells
  refine c_loop (fun mm s => ∃ (i : Nat) (xs : List Int) (js : List Ent), (i ≤ L.length ∧ mm = L.length - i ∧ xs.length = 4 ∧ (∀ x ∈ xs, Big x) ∧ ∀ j, j < 4 → xs.getD j 0 = if j < i then pV L vals j else vals.getD j 0) ∧ (s.env.length = 88 ∧ s.sto = sto ++ .cells [.v (VI k0), .v (VI n0), .v (VI m0), .v (.sl l0.length (cellsTs l0))] :: .cells [.v (VI k1), .v (VI n1), .v (VI m1), .v (.sl l1.length (cellsTs l1))] :: .arr (some (3, 1)) true 4 (xs.map VI) :: js ∧ s.env[13]? = some (.ptr sto.length 0) ∧ s.env[14]? = some (.v (.sl L.length (cellsTs L))) ∧ s.env[15]? = some (.ptr (sto.length + 1) 0) ∧ s.env[16]? = some (.v (LI vals)) ∧ s.env[17]? = some (.arr (sto.length + 2) 4) ∧ s.env[18]? = some (.v (VI i)))) (.refl _) ⟨0, vals, [], ⟨by omega, rfl, hvl, hvbig, fun j _ => by rw [if_neg (by omega)]⟩, rfl, rfl, ?_, ?_, ?_, ?_, ?_, ?_⟩ ?_
  all_goals first | rfl | skip
  rintro mm s ⟨i, xs, js, ⟨h1, rfl, h2, h3, h4⟩, hL, hT, k13, k14, k15, k16, k17, k18⟩
  obtain ⟨env, st0⟩ := s; obtain ⟨J, hJ⟩ := listJ hL; rw [show (List.range 88).map J = J 0 :: J 1 :: J 2 :: J 3 :: J 4 :: J 5 :: J 6 :: J 7 :: J 8 :: J 9 :: J 10 :: J 11 :: J 12 :: J 13 :: J 14 :: J 15 :: J 16 :: J 17 :: J 18 :: J 19 :: J 20 :: J 21 :: J 22 :: J 23 :: J 24 :: J 25 :: J 26 :: J 27 :: J 28 :: J 29 :: J 30 :: J 31 :: J 32 :: J 33 :: J 34 :: J 35 :: J 36 :: J 37 :: J 38 :: J 39 :: J 40 :: J 41 :: J 42 :: J 43 :: J 44 :: J 45 :: J 46 :: J 47 :: J 48 :: J 49 :: J 50 :: J 51 :: J 52 :: J 53 :: J 54 :: J 55 :: J 56 :: J 57 :: J 58 :: J 59 :: J 60 :: J 61 :: J 62 :: J 63 :: J 64 :: J 65 :: J 66 :: J 67 :: J 68 :: J 69 :: J 70 :: J 71 :: J 72 :: J 73 :: J 74 :: J 75 :: J 76 :: J 77 :: J 78 :: J 79 :: J 80 :: J 81 :: J 82 :: J 83 :: J 84 :: J 85 :: J 86 :: J 87 :: [] from by kernel_rfl] at hJ; replace k13 := Option.some.inj ((congrArg (·[13]?) hJ).symm.trans k13); replace k14 := Option.some.inj ((congrArg (·[14]?) hJ).symm.trans k14); replace k15 := Option.some.inj ((congrArg (·[15]?) hJ).symm.trans k15); replace k16 := Option.some.inj ((congrArg (·[16]?) hJ).symm.trans k16); replace k17 := Option.some.inj ((congrArg (·[17]?) hJ).symm.trans k17); replace k18 := Option.some.inj ((congrArg (·[18]?) hJ).symm.trans k18); rw [k13, k14, k15, k16, k17, k18] at hJ; dsimp only at hJ hT; subst hJ; replace hT := hT.symm; subst hT; clear hL k13 k14 k15 k16 k17 k18
  by_cases hi : i < L.length
  · have hi4 : i < 4 := by omega
    obtain ⟨q1, q2, q3⟩ := hLe L[i] (List.getElem_mem hi)
    have hget : L.getD i (.mk 0 0 0 []) = L[i] := by simp [List.getD, hi]
    have hpv : pV L vals i = if typeR L[i] = ((i / 2 : Nat) : Int) then evalS vals L[i] else vals.getD i 0 := by
      unfold pV
      rw [hget]
      by_cases c : typeR L[i] = ((i / 2 : Nat) : Int)
      · rw [if_pos ⟨hi, c⟩, if_pos c]
      · rw [if_neg (fun h => c h.2), if_neg c]
    have hstep := pV_step h4 h2 hi4
    have hskip := fun he => pV_skip h4 (i := i) he
    have hbig : ∀ v : Int, Big v → ∀ x ∈ xs.set i v, Big x := fun v hv x hx => (List.mem_or_eq_of_mem_set hx).elim (h3 x) fun e => e ▸ hv
    have hxl : ∀ v : Int, (xs.set i v).length = 4 := fun v => by rw [List.length_set]; exact h2
    clear hLe hep het hval hlv h4 hget
    generalize evalS vals L[i] = v at *
    generalize htr : typeR L[i] = ty at *
    have e : ∃ k2 n2 m2 l2, L[i] = .mk k2 n2 m2 l2 := by
      cases L[i] with
      | mk a b c d => exact ⟨a, b, c, d, rfl⟩
    obtain ⟨k2, n2, m2, l2, e⟩ := e
    rw [e] at q1 q2
    clear htr
    by_cases c : ty = ((i / 2 : Nat) : Int)
    · rw [if_pos c] at hpv
      rw [hpv] at hstep
      clear hskip hpv
      repeat' (first | (refine tqgo ⟨?_⟩) | (fail) | ((first | (refine bsp ?_ ?_) | (refine csp ?_ ?_)); all_goals (intro hb; (fail_if_success (cases hb; done)); (try simp only [decide_eq_true_eq, decide_eq_false_iff_not, beq_iff_eq, bne_iff_ne, ne_eq, beq_eq_false_iff_ne, bne_eq_false_iff_eq, Bool.not_eq_true', Bool.not_eq_false', Bool.and_eq_true, Bool.or_eq_true, Decidable.not_not] at hb); (try simp only [go_sem]))))
      rw [e]
      repeat' (first | (refine tqgo ⟨?_⟩) | (first | ((refine tqcall ?_); (refine ⟨_, q1 _ _ (by first | omega | (simp; done) | (simp; omega)), ?_⟩); (try simp only [go_sem])) | ((refine tqcall ?_); (refine ⟨_, q2 _ _ (by first | omega | (simp; done) | (simp; omega)), ?_⟩); (try simp only [go_sem])) | (rw [e])) | ((first | (refine bsp ?_ ?_) | (refine csp ?_ ?_)); all_goals (intro hb; (fail_if_success (cases hb; done)); (try simp only [decide_eq_true_eq, decide_eq_false_iff_not, beq_iff_eq, bne_iff_ne, ne_eq, beq_eq_false_iff_ne, bne_eq_false_iff_eq, Bool.not_eq_true', Bool.not_eq_false', Bool.and_eq_true, Bool.or_eq_true, Decidable.not_not] at hb); (try simp only [go_sem]))))
      refine ⟨_, _, ?_, .refl _, i + 1, xs.set i v, _, ⟨by omega, rfl, hxl v, hbig v q3, hstep⟩, rfl, rfl, ?_, ?_, ?_, ?_, ?_, ?_⟩
      · omega
      all_goals rfl
    · rw [if_neg c] at hpv
      have hnx := hskip hpv
      clear hskip hpv hstep
      repeat' (first | (refine tqgo ⟨?_⟩) | (fail) | ((first | (refine bsp ?_ ?_) | (refine csp ?_ ?_)); all_goals (intro hb; (fail_if_success (cases hb; done)); (try simp only [decide_eq_true_eq, decide_eq_false_iff_not, beq_iff_eq, bne_iff_ne, ne_eq, beq_eq_false_iff_ne, bne_eq_false_iff_eq, Bool.not_eq_true', Bool.not_eq_false', Bool.and_eq_true, Bool.or_eq_true, Decidable.not_not] at hb); (try simp only [go_sem]))))
      rw [e]
      repeat' (first | (refine tqgo ⟨?_⟩) | (first | ((refine tqcall ?_); (refine ⟨_, q1 _ _ (by first | omega | (simp; done) | (simp; omega)), ?_⟩); (try simp only [go_sem])) | ((refine tqcall ?_); (refine ⟨_, q2 _ _ (by first | omega | (simp; done) | (simp; omega)), ?_⟩); (try simp only [go_sem])) | (rw [e])) | ((first | (refine bsp ?_ ?_) | (refine csp ?_ ?_)); all_goals (intro hb; (fail_if_success (cases hb; done)); (try simp only [decide_eq_true_eq, decide_eq_false_iff_not, beq_iff_eq, bne_iff_ne, ne_eq, beq_eq_false_iff_ne, bne_eq_false_iff_eq, Bool.not_eq_true', Bool.not_eq_false', Bool.and_eq_true, Bool.or_eq_true, Decidable.not_not] at hb); (try simp only [go_sem]))))
      refine ⟨_, _, ?_, .refl _, i + 1, xs, _, ⟨by omega, rfl, h2, h3, hnx⟩, rfl, rfl, ?_, ?_, ?_, ?_, ?_, ?_⟩
      · omega
      all_goals rfl
  · have hil : i = L.length := by omega
    subst hil
    have he := fun sto lo hlo => het xs h3 h2 sto lo hlo
    rw [← hval xs (pV_end h4), show LI xs = V.sl 4 (xs.map VI) from by simp only [LI, SL, h2]] at he
    clear het hval h4 h3 hLe
    (try refine tqgoX ⟨?_⟩)
    (with_reducible refine c_region ?_)
    (repeat (first | with_reducible (first | refine c_seq ?_ | refine c_block ?_ | refine c_skip ?_ | refine c_exit ?_ | refine c_ret ?_ | refine then_normal ?_ | refine then_exit ?_ | refine then_ret ?_ | refine block_normal ?_ | refine block_here ?_ | refine block_ret ?_ | refine block_far (by decide) ?_ | refine ops_nil ?_ | refine c_cond_t rfl ?_ | refine c_cond_f rfl ?_) | ((with_reducible apply ops_pure); rfl; (simp (disch := (first | omega | assumption | ((repeat' with_reducible apply And.intro) <;> first | omega | assumption | rfl | (apply Or.inl; rfl) | (apply Or.inr; first | rfl | trivial | fail) | fail) | fail)) only [go_sem, if_pos, if_neg, wrapI, wrapU, decide_eq_true, decide_eq_false, beqT, beqF, bneT, bneF, hcc] <;> rfl); simp only [go_sem]) | ((with_reducible apply ops_skip); rfl; simp only [go_sem])))
    (with_reducible refine c_region_share [sto.length + 2] ?_ ?_); (intro _; kernel_rfl); simp (disch := (first | omega | assumption | ((repeat' with_reducible apply And.intro) <;> first | omega | assumption | rfl | (apply Or.inl; rfl) | (apply Or.inr; first | rfl | trivial | fail) | fail) | fail)) only [go_sem, if_pos, if_neg, wrapI, wrapU, decide_eq_true, decide_eq_false, beqT, beqF, bneT, bneF, hcc]
    repeat' (first | (refine tqgo ⟨?_⟩) | (first | ((refine tqcall ?_); (refine ⟨_, hep _ _ (by first | omega | (simp; done) | (simp; omega)), ?_⟩); (try simp only [go_sem])) | ((refine tqcall ?_); (refine ⟨_, he _ _ (by first | omega | (simp; done) | (simp; omega)), ?_⟩); (try simp only [go_sem])) | ((refine tqcall ?_); (refine ⟨_, hlv _ _ (by first | omega | (simp; done) | (simp; omega)), ?_⟩); (try simp only [go_sem]))) | ((first | (refine bsp ?_ ?_) | (refine csp ?_ ?_)); all_goals (intro hb; (fail_if_success (cases hb; done)); (try simp only [decide_eq_true_eq, decide_eq_false_iff_not, beq_iff_eq, bne_iff_ne, ne_eq, beq_eq_false_iff_ne, bne_eq_false_iff_eq, Bool.not_eq_true', Bool.not_eq_false', Bool.and_eq_true, Bool.or_eq_true, Decidable.not_not] at hb); (try simp only [go_sem]))))
    refine ⟨by first | exact .inr rfl | exact .inl rfl, .inl ⟨[], _, (by dsimp only [Tryd.f5]; exact tqsv), ?_, by simp⟩⟩
    rfl
end Go.Proofs.YtomameefmobnlaaDoor
namespace Go.Proofs.YtomameefmobnlaaDoor.termPut
open Go Go.ChangeShapes Go.WideShapes Go.ChangeAt Go.RowKit

theorem door_met (os : Os) (args : Array Value) : laidMetH Tryd.prog Rows.termPutRow.laid ((World.doorLaid Tryd.prog 600 os).forCall (fun _ _ => 0) ⟨#[], args, []⟩).memory :=
  laidMetH_of_parts3 (fuel := 8) (laidMet_of_run' 8 (by kernel_rfl) (by kernel_rfl)) (by kernel_rfl) (by kernel_rfl)

set_option maxRecDepth 100000 in
theorem lifted (os : Os) (started : os.Started) (H : Type) (enc : TypeId × Value → H) :
    ReturnsInHanded {} Tryd.checked os 5 .any (fun w args => (Rows.termPutSpec.pre enc Tryd.prog Tryd.f5 [] false w args ∧ laidMetH Tryd.prog Rows.termPutRow.laid w) ∧ sizedMet enc Tryd.prog Tryd.f5 (OpenSpec.ofChange Rows.termPutSpec) false w args)
      (Rows.termPutSpec.post enc Tryd.prog Tryd.f5 false true false false) := by
  refine returnsInHanded_of_change_and (C := Tryd.checked) (X := fun w _ => laidMetH Tryd.prog Rows.termPutRow.laid w) (fun _ _ _ hh h => h.of_heap hh) own started (by kernel_rfl) Tryd.func5
    (ChangeSpec.witness_shaped (enc := enc) (C := Tryd.checked) (os := os) (X := fun w _ => laidMetH Tryd.prog Rows.termPutRow.laid w) false (World.doorLaid Tryd.prog 600 os) #[.slice none 0 0, .int .i64 0, .slice none 0 0, .slice none 0 0, .int .i64 0, .int .i64 0] 8 rfl (World.shaped_of_RefB (by kernel_rfl) (by kernel_rfl)) (by kernel_rfl) (by kernel_rfl) (by kernel_rfl) (door_met os _)) ?_
  intro W base args ds gs before hval0 hW _ _ hL _
  have hval : ∀ (j : Nat) t v, Tryd.f5.params[j]? = some t → args[j]? = some v → Value.okWide Tryd.prog W .any base t v := hval0
  have hW' := hW
  obtain ⟨p, q, hA0, hV, rfl, hfz, hnd⟩ := hW
  have hA : DataW.TrodAll enc Tryd.prog W 0 (fun _ => true) true Tryd.f5.params.toList args.toList ds p := hA0
  rw [Tryd.params5] at hA hval
  obtain ⟨v0, vs0, d0, ds0, p0, q0, hargs, rfl, rfl, hd0, r0⟩ := trodAll_cons hA
  obtain ⟨v1, vs1, d1, ds1, p1, q1, rfl, rfl, rfl, hd1, r1⟩ := trodAll_cons r0
  obtain ⟨v2, vs2, d2, ds2, p2, q2, rfl, rfl, rfl, hd2, r2⟩ := trodAll_cons r1
  obtain ⟨v3, vs3, d3, ds3, p3, q3, rfl, rfl, rfl, hd3, r3⟩ := trodAll_cons r2
  obtain ⟨v4, vs4, d4, ds4, p4, q4, rfl, rfl, rfl, hd4, r4⟩ := trodAll_cons r3
  obtain ⟨v5, vs5, d5, ds5, p5, q5, rfl, rfl, rfl, hd5, r5⟩ := trodAll_cons r4
  obtain ⟨rfl, rfl, rfl⟩ := trodAll_nil r5
  obtain rfl : args = #[v0, v1, v2, v3, v4, v5] := by cases args; simp_all
  obtain ⟨l0, k0⟩ := (opens_slice Tryd.underlying22 (by kernel_rfl) (opens_int (k := .i64) Tryd.underlying3)).arg Tryd.underlying22 (hval 0 22 v0 rfl rfl) hd0
  obtain ⟨h0, q0⟩ := k0.ints
  have n0 := rd_len h0
  obtain ⟨a1, rfl, rfl, rfl, wa1⟩ := open_int Tryd.underlying3 (hval 1 3 v1 rfl rfl) hd1
  have b1 := i64_wf wa1
  obtain ⟨l2, k2⟩ := (opens_slice Tryd.underlying22 (by kernel_rfl) (opens_int (k := .i64) Tryd.underlying3)).arg Tryd.underlying22 (hval 2 22 v2 rfl rfl) hd2
  obtain ⟨h2, q2⟩ := k2.ints
  have n2 := rd_len h2
  obtain ⟨l3, k3⟩ := (opens_slice Tryd.underlying22 (by kernel_rfl) (opens_int (k := .i64) Tryd.underlying3)).arg Tryd.underlying22 (hval 3 22 v3 rfl rfl) hd3
  obtain ⟨h3, q3⟩ := k3.ints
  have n3 := rd_len h3
  obtain ⟨a4, rfl, rfl, rfl, wa4⟩ := open_int Tryd.underlying3 (hval 4 3 v4 rfl rfl) hd4
  have b4 := i64_wf wa4
  obtain ⟨a5, rfl, rfl, rfl, wa5⟩ := open_int Tryd.underlying3 (hval 5 3 v5 rfl rfl) hd5
  have b5 := i64_wf wa5
  refine (law_calls (vals := [v0, .int .i64 a1, v2, v3, .int .i64 a4, .int .i64 a5]) (xs := [LI l0, VI a1, LI l2, LI l3, VI a4, VI a5]) sortB_ok (termPut_ev l0 a1 l2 l3 a4 a5 ⟨n0, q0⟩ b1 ⟨n2, q2⟩ ⟨n3, q3⟩ b4 b5 [] 0 (Nat.le_refl _)) (glob_of_laid hL) (Pw.cons (rep_ints h0) (Pw.cons (rep_int a1) (Pw.cons (rep_ints h2) (Pw.cons (rep_ints h3) (Pw.cons (rep_int a4) (Pw.cons (rep_int a5) (Pw.nil)))))))).mono fun e W' ⟨he, hb⟩ => ?_
  subst he
  exact ⟨_, rfl, law_post hW' rfl laidOut (by kernel_rfl) rfl Tryd.underlying4 (fun ds h => match ds, h with | [_, _, _, _, _, _], _ => rfl) hb⟩

theorem said : Rows.TermPutSaid :=
  OpenClaim.holds_of_wide 5 Tryd.f5 rfl rfl rfl rfl rfl rfl rfl ⟨rfl, rfl, rfl, rfl, rfl⟩ rfl rfl rfl rfl rfl (by kernel_rfl) Tryd.func5 (by kernel_rfl)
    (of_decide_eq_true (by kernel_rfl)) (by unfold Func.isWrapper; first | (rw [if_pos (by decide +kernel)]; kernel_rfl) | (rw [if_neg (by decide +kernel)]; exact ⟨rfl, rfl⟩))
    (fun os started H enc _ => lifted os started H enc)

theorem plain (f : FuncId) (fn : Func) (hf : Tryd.pinned.checked.prog.funcNamed "scoria/scorialaw20.TermPut" = some f) (hfn : Tryd.pinned.checked.prog.funcs[f]? = some fn) :
    false = Tryd.pinned.checked.prog.looks [] ∧ ∀ (j : Nat) t, fn.params[j]? = some t → Tryd.pinned.checked.prog.wantsStandIn t = false := by
  obtain rfl : f = 5 := Option.some.inj ((show Tryd.prog.funcNamed "scoria/scorialaw20.TermPut" = some 5 by kernel_rfl).symm.trans hf) |>.symm
  obtain rfl : fn = Tryd.f5 := (Option.some.inj (Tryd.func5.symm.trans hfn)).symm
  refine ⟨by kernel_rfl, fun j t ht => ?_⟩
  have hall : (Tryd.f5.params.toList.all fun t => !(Tryd.prog.wantsStandIn t)) = true := by kernel_rfl
  have h := List.all_eq_true.1 hall t (Array.mem_toList_iff.2 (Array.mem_of_getElem? ht))
  exact (Bool.not_eq_true' _).mp h

/-- THE CARD. -/
theorem termPut_holds : Rows.TermPutCardSaid :=
  Claim7.holds_tied_plain_at .later [] _ _ _ _ said (fun _ h => by cases h) (by kernel_rfl) (fun _ h => by cases h) termPut_row_tie rfl ⟨rfl, rfl⟩ (by kernel_rfl) rfl plain (by kernel_rfl)
#print axioms termPut_holds
end Go.Proofs.YtomameefmobnlaaDoor.termPut
