/-
  Terms: the package's Vars visits a term. No condition of its own. Terms: the package's Put puts. No condition of its own. Terms: the package's Put, over what Valid answers. No condition of its own. Terms: the package's Vars. No condition of its own. Trees: the reference's Compare and Same. No condition of its own. Terms: the examples of the section, over what Valid answers. No condition of its own. Terms: the package's Valid. No condition of its own.
-/
import Derived.Test.YtomameefmobnlaaDoorS3
import Derived.Test.YtomameefmobnlaaDoorS5
import Derived.Test.YtomameefmobnlaaDoorS2
import Derived.Test.YtomameefmobnlaaDoorS7
import Derived.Test.YtomameefmobnlaaDoorS12
namespace Go.Proofs.YtomameefmobnlaaDoor
open Go Go.RowKit

attribute [local irreducible] EvOps EvC
theorem sE {sto l : Sto} {id j : Nat} {X : Ent} (hj : j < sto.length) (hne : id ≠ j) : (sto.set id X ++ l)[j]? = sto[j]? := by
  rw [List.getElem?_append_left (by simpa using hj), List.getElem?_set_ne hne]
theorem c_sto2 {T : Tab} {X : CallP} {n0 lo : Nat} {wt : List Tmp} {c : Code} {R : Exit → St → Prop} {env : List D} {sto sto' : Sto} (h : sto' = sto) (k : EvC T X n0 lo wt c R ⟨env, sto'⟩) : EvC T X n0 lo wt c R ⟨env, sto⟩ := h ▸ k
attribute [local go_sem] List.getElem?_toArray List.flatten_cons List.flatten_nil List.contains_nil List.append_nil List.length_set Bool.and_self implies_true eq_self
attribute [local go_sem] getS sA0 sA sB0 sB sC sC2 sD sD2 sT sE mput_mk
theorem vigo {p q : Prop} (k : Later q) (h : Later q → p := by (intro k; (first | with_reducible (first | refine c_seq ?_ | refine c_block ?_ | refine c_region ?_ | refine c_skip ?_ | refine c_exit ?_ | refine c_ret ?_ | refine then_normal ?_ | refine then_exit ?_ | refine then_ret ?_ | refine block_normal ?_ | refine block_here ?_ | refine block_ret ?_ | refine block_far (by decide) ?_ | refine ops_nil ?_ | refine c_cond_t rfl ?_ | refine c_cond_f rfl ?_) | ((with_reducible apply ops_pure); rfl; (simp (disch := (first | omega | assumption | ((repeat' with_reducible apply And.intro) <;> first | omega | assumption | rfl | (apply Or.inl; rfl) | (apply Or.inr; first | rfl | trivial | fail) | fail) | fail)) only [go_sem, if_pos, if_neg, wrapI, wrapU, decide_eq_true, decide_eq_false, beqT, beqF, bneT, bneF, hp0, hpf, hpv] <;> rfl); simp only [go_sem]) | ((with_reducible apply ops_pureF); rfl; (intro _; simp (disch := (first | omega | assumption | ((repeat' with_reducible apply And.intro) <;> first | omega | assumption | rfl | (apply Or.inl; rfl) | (apply Or.inr; first | rfl | trivial | fail) | fail) | fail)) only [go_sem, if_pos, if_neg, wrapI, wrapU, decide_eq_true, decide_eq_false, beqT, beqF, bneT, bneF, hp0, hpf, hpv] <;> rfl); simp only [go_sem]) | ((with_reducible apply ops_pureD); kernel_rfl; rfl; (simp (disch := (first | omega | assumption | ((repeat' with_reducible apply And.intro) <;> first | omega | assumption | rfl | (apply Or.inl; rfl) | (apply Or.inr; first | rfl | trivial | fail) | fail) | fail)) only [go_sem, if_pos, if_neg, wrapI, wrapU, decide_eq_true, decide_eq_false, beqT, beqF, bneT, bneF, hp0, hpf, hpv] <;> rfl); simp only [go_sem]) | ((with_reducible apply ops_skip); rfl; simp only [go_sem]) | ((with_reducible apply c_regionD); kernel_rfl) | ((with_reducible apply ops_eff); decide; rfl; (simp (disch := (first | omega | assumption | ((repeat' with_reducible apply And.intro) <;> first | omega | assumption | rfl | (apply Or.inl; rfl) | (apply Or.inr; first | rfl | trivial | fail) | fail) | fail)) only [go_sem, if_pos, if_neg, wrapI, wrapU, decide_eq_true, decide_eq_false, beqT, beqF, bneT, bneF, hp0, hpf, hpv] <;> rfl); simp only [go_sem])); (repeat (first | with_reducible (first | refine c_seq ?_ | refine c_block ?_ | refine c_region ?_ | refine c_skip ?_ | refine c_exit ?_ | refine c_ret ?_ | refine then_normal ?_ | refine then_exit ?_ | refine then_ret ?_ | refine block_normal ?_ | refine block_here ?_ | refine block_ret ?_ | refine block_far (by decide) ?_ | refine ops_nil ?_ | refine c_cond_t rfl ?_ | refine c_cond_f rfl ?_) | ((with_reducible apply ops_pure); rfl; (simp (disch := (first | omega | assumption | ((repeat' with_reducible apply And.intro) <;> first | omega | assumption | rfl | (apply Or.inl; rfl) | (apply Or.inr; first | rfl | trivial | fail) | fail) | fail)) only [go_sem, if_pos, if_neg, wrapI, wrapU, decide_eq_true, decide_eq_false, beqT, beqF, bneT, bneF, hp0, hpf, hpv] <;> rfl); simp only [go_sem]) | ((with_reducible apply ops_pureF); rfl; (intro _; simp (disch := (first | omega | assumption | ((repeat' with_reducible apply And.intro) <;> first | omega | assumption | rfl | (apply Or.inl; rfl) | (apply Or.inr; first | rfl | trivial | fail) | fail) | fail)) only [go_sem, if_pos, if_neg, wrapI, wrapU, decide_eq_true, decide_eq_false, beqT, beqF, bneT, bneF, hp0, hpf, hpv] <;> rfl); simp only [go_sem]) | ((with_reducible apply ops_pureD); kernel_rfl; rfl; (simp (disch := (first | omega | assumption | ((repeat' with_reducible apply And.intro) <;> first | omega | assumption | rfl | (apply Or.inl; rfl) | (apply Or.inr; first | rfl | trivial | fail) | fail) | fail)) only [go_sem, if_pos, if_neg, wrapI, wrapU, decide_eq_true, decide_eq_false, beqT, beqF, bneT, bneF, hp0, hpf, hpv] <;> rfl); simp only [go_sem]) | ((with_reducible apply ops_skip); rfl; simp only [go_sem]) | ((with_reducible apply c_regionD); kernel_rfl) | ((with_reducible apply ops_eff); decide; rfl; (simp (disch := (first | omega | assumption | ((repeat' with_reducible apply And.intro) <;> first | omega | assumption | rfl | (apply Or.inl; rfl) | (apply Or.inr; first | rfl | trivial | fail) | fail) | fail)) only [go_sem, if_pos, if_neg, wrapI, wrapU, decide_eq_true, decide_eq_false, beqT, beqF, bneT, bneF, hp0, hpf, hpv] <;> rfl); simp only [go_sem]))); exact k.get)) : p := h k
theorem vigoX {p q : Prop} (k : Later q) (h : Later q → p := by (intro k; (first | with_reducible (first | refine c_seq ?_ | refine c_block ?_ | refine c_skip ?_ | refine c_exit ?_ | refine c_ret ?_ | refine then_normal ?_ | refine then_exit ?_ | refine then_ret ?_ | refine block_normal ?_ | refine block_here ?_ | refine block_ret ?_ | refine block_far (by decide) ?_ | refine ops_nil ?_ | refine c_cond_t rfl ?_ | refine c_cond_f rfl ?_) | ((with_reducible apply ops_pure); rfl; (simp (disch := (first | omega | assumption | ((repeat' with_reducible apply And.intro) <;> first | omega | assumption | rfl | (apply Or.inl; rfl) | (apply Or.inr; first | rfl | trivial | fail) | fail) | fail)) only [go_sem, if_pos, if_neg, wrapI, wrapU, decide_eq_true, decide_eq_false, beqT, beqF, bneT, bneF, hp0, hpf, hpv] <;> rfl); simp only [go_sem]) | ((with_reducible apply ops_pureF); rfl; (intro _; simp (disch := (first | omega | assumption | ((repeat' with_reducible apply And.intro) <;> first | omega | assumption | rfl | (apply Or.inl; rfl) | (apply Or.inr; first | rfl | trivial | fail) | fail) | fail)) only [go_sem, if_pos, if_neg, wrapI, wrapU, decide_eq_true, decide_eq_false, beqT, beqF, bneT, bneF, hp0, hpf, hpv] <;> rfl); simp only [go_sem]) | ((with_reducible apply ops_pureD); kernel_rfl; rfl; (simp (disch := (first | omega | assumption | ((repeat' with_reducible apply And.intro) <;> first | omega | assumption | rfl | (apply Or.inl; rfl) | (apply Or.inr; first | rfl | trivial | fail) | fail) | fail)) only [go_sem, if_pos, if_neg, wrapI, wrapU, decide_eq_true, decide_eq_false, beqT, beqF, bneT, bneF, hp0, hpf, hpv] <;> rfl); simp only [go_sem]) | ((with_reducible apply ops_skip); rfl; simp only [go_sem]) | ((with_reducible apply c_regionD); kernel_rfl) | ((with_reducible apply ops_eff); decide; rfl; (simp (disch := (first | omega | assumption | ((repeat' with_reducible apply And.intro) <;> first | omega | assumption | rfl | (apply Or.inl; rfl) | (apply Or.inr; first | rfl | trivial | fail) | fail) | fail)) only [go_sem, if_pos, if_neg, wrapI, wrapU, decide_eq_true, decide_eq_false, beqT, beqF, bneT, bneF, hp0, hpf, hpv] <;> rfl); simp only [go_sem])); (repeat (first | with_reducible (first | refine c_seq ?_ | refine c_block ?_ | refine c_skip ?_ | refine c_exit ?_ | refine c_ret ?_ | refine then_normal ?_ | refine then_exit ?_ | refine then_ret ?_ | refine block_normal ?_ | refine block_here ?_ | refine block_ret ?_ | refine block_far (by decide) ?_ | refine ops_nil ?_ | refine c_cond_t rfl ?_ | refine c_cond_f rfl ?_) | ((with_reducible apply ops_pure); rfl; (simp (disch := (first | omega | assumption | ((repeat' with_reducible apply And.intro) <;> first | omega | assumption | rfl | (apply Or.inl; rfl) | (apply Or.inr; first | rfl | trivial | fail) | fail) | fail)) only [go_sem, if_pos, if_neg, wrapI, wrapU, decide_eq_true, decide_eq_false, beqT, beqF, bneT, bneF, hp0, hpf, hpv] <;> rfl); simp only [go_sem]) | ((with_reducible apply ops_pureF); rfl; (intro _; simp (disch := (first | omega | assumption | ((repeat' with_reducible apply And.intro) <;> first | omega | assumption | rfl | (apply Or.inl; rfl) | (apply Or.inr; first | rfl | trivial | fail) | fail) | fail)) only [go_sem, if_pos, if_neg, wrapI, wrapU, decide_eq_true, decide_eq_false, beqT, beqF, bneT, bneF, hp0, hpf, hpv] <;> rfl); simp only [go_sem]) | ((with_reducible apply ops_pureD); kernel_rfl; rfl; (simp (disch := (first | omega | assumption | ((repeat' with_reducible apply And.intro) <;> first | omega | assumption | rfl | (apply Or.inl; rfl) | (apply Or.inr; first | rfl | trivial | fail) | fail) | fail)) only [go_sem, if_pos, if_neg, wrapI, wrapU, decide_eq_true, decide_eq_false, beqT, beqF, bneT, bneF, hp0, hpf, hpv] <;> rfl); simp only [go_sem]) | ((with_reducible apply ops_skip); rfl; simp only [go_sem]) | ((with_reducible apply c_regionD); kernel_rfl) | ((with_reducible apply ops_eff); decide; rfl; (simp (disch := (first | omega | assumption | ((repeat' with_reducible apply And.intro) <;> first | omega | assumption | rfl | (apply Or.inl; rfl) | (apply Or.inr; first | rfl | trivial | fail) | fail) | fail)) only [go_sem, if_pos, if_neg, wrapI, wrapU, decide_eq_true, decide_eq_false, beqT, beqF, bneT, bneF, hp0, hpf, hpv] <;> rfl); simp only [go_sem]))); exact k.get)) : p := h k
theorem visv {p : Prop} (h : p := by simp (disch := (first | omega | assumption | ((repeat' with_reducible apply And.intro) <;> first | omega | assumption | rfl | (apply Or.inl; rfl) | (apply Or.inr; first | rfl | trivial | fail) | fail) | fail)) only [go_sem, if_pos, if_neg, wrapI, wrapU, decide_eq_true, decide_eq_false, beqT, beqF, bneT, bneF, hp0, hpf, hpv] <;> rfl) : p := h
theorem vicall {T : Tab} {X : CallP} {n0 lo : Nat} {wt : List Tmp} {draw : Bool} {ops : Array Oper} {Q : St → Prop} {rest : List Oper} {o : Oper} {env : List D} {sto : Sto} {f : FuncId} {args : List D} (k : ∃ r, X f args sto (if draw then sto.length else lo) r sto ∧ EvOps T X n0 lo wt draw ops Q rest (St.put ⟨env, sto⟩ o.dst r)) (hg : guardD ops o env = some true := by rfl) (h : evCallee (opd env) sto o = some (f, args) := by simp (disch := (first | omega | assumption | ((repeat' with_reducible apply And.intro) <;> first | omega | assumption | rfl | (apply Or.inl; rfl) | (apply Or.inr; first | rfl | trivial | fail) | fail) | fail)) only [go_sem, if_pos, if_neg, wrapI, wrapU, decide_eq_true, decide_eq_false, beqT, beqF, bneT, bneF, hp0, hpf, hpv] <;> rfl) : EvOps T X n0 lo wt draw ops Q (o :: rest) ⟨env, sto⟩ := k.elim fun _ k => ops_call hg h k.1 k.2
set_option linter.unusedSimpArgs false
set_option linter.unusedVariables false
set_option maxRecDepth 100000
set_option maxHeartbeats 4000000
theorem ho_mk2 {n0 lo : Nat} {sto l l' : Sto} {id : Nat} {k : IntKind} {kvs : List (Int × V)} {X : Ent} (hn : n0 ≤ sto.length) (hid : id < sto.length) : ∀ i es, lo ≤ i → i < n0 → (sto.set id (.map k kvs) ++ l)[i]? = some (.cells es) → (sto.set id X ++ l')[i]? = some (.cells es) ∨ scopedL n0 es = true := by
  intro i es _ hi h
  rw [List.getElem?_append_left (by simp; omega)] at h ⊢
  rcases Nat.decEq id i with hne | rfl
  · rw [List.getElem?_set_ne hne] at h ⊢; exact .inl h
  · rw [List.getElem?_set_self hid] at h; cases h
abbrev vis.f : FuncId := 45
theorem visit_ev (fb vb mid : Nat) (hfm : mid ≠ fb) (hvm : mid ≠ vb) (N : Nat) : ∀ (t : Tr) (ns : List Int) (sto : Sto) (lo : Nat), tsz t ≤ N → tsz t < 1000000 → sto[fb]? = some (.cells [.map mid]) → sto[vb]? = some (.cells [.clo vis.f [fb, vb]]) → sto[mid]? = some (.map .i64 (mkK ns)) → lo ≤ mid → lo ≤ sto.length →
    CallEv Tryd.prog tab B0 vis.f [.v (TV t), .ptr fb 0, .ptr vb 0] sto lo (.v (.tup [])) (sto.set mid (.map .i64 (mkK (visK t ns)))) := by
  induction N with
  | zero => intro t ns sto lo h; have := tsz_pos t; omega
  | succ N ih =>
    intro t ns sto lo hN hs hpf hpv hp0 hlid hlo
    obtain ⟨k, n, m, l⟩ := t
    simp only [tsz] at hN hs
    have hll := tszs_length l
    have hid : mid < sto.length := (List.getElem?_eq_some_iff.1 hp0).1
    have hfl : fb < sto.length := (List.getElem?_eq_some_iff.1 hpf).1
    have hvl : vb < sto.length := (List.getElem?_eq_some_iff.1 hpv).1
    rw [visK]
    obtain ⟨ns0, hns0⟩ : ∃ ns0, ns0 = if k = 6 then addK ns n else ns := ⟨_, rfl⟩
    rw [← hns0]
    refine CallEv.intro ⟨_, _, [], Tryd.func45, rfl, by decide, ?_⟩; simp only [go_sem, Tryd.ntmps45]
    refine c_sto2 (set_sameE hp0) ?_
    by_cases c : k = 6
    all_goals first | rw [if_pos c] at hns0 | rw [if_neg c] at hns0
    all_goals
      repeat' (first | (refine vigo ⟨?_⟩) | (fail) | ((first | (refine bsp ?_ ?_) | (refine csp ?_ ?_)); all_goals (intro hb; (fail_if_success (cases hb; done)); (try simp only [decide_eq_true_eq, decide_eq_false_iff_not, beq_iff_eq, bne_iff_ne, ne_eq, beq_eq_false_iff_ne, bne_eq_false_iff_eq, Bool.not_eq_true', Bool.not_eq_false', Bool.and_eq_true, Bool.or_eq_true, Decidable.not_not] at hb); (try simp only [go_sem]))))
      rw [← hns0]
      clear hns0 c
      refine c_loop (fun mm s => ∃ (i : Nat) (ns1 : List Int) (js : List Ent), (i ≤ l.length ∧ mm = l.length - i ∧ ns1 = visKs (l.take i) ns0) ∧ (s.env.length = 23 ∧ s.sto = sto.set mid (.map .i64 (mkK ns1)) ++ .cells [.v (VI k), .v (VI n), .v (VI m), .v (.sl l.length (cellsTs l))] :: js ∧ s.env[1]? = some (.ptr fb 0) ∧ s.env[2]? = some (.ptr vb 0) ∧ s.env[3]? = some (.ptr sto.length 0) ∧ s.env[13]? = some (.v (.sl l.length (cellsTs l))) ∧ s.env[14]? = some (.v (VI l.length)) ∧ s.env[15]? = some (.v (VI i)))) (.refl _) ⟨0, ns0, [], ⟨by omega, rfl, by simp [visKs]⟩, rfl, rfl, ?_, ?_, ?_, ?_, ?_, ?_⟩ ?_
      all_goals first | rfl | skip
      rintro mm s ⟨i, ns1, js, ⟨h1, rfl, h2⟩, hL, hT, k1, k2, k3, k13, k14, k15⟩
      obtain ⟨env, st0⟩ := s; obtain ⟨J, hJ⟩ := listJ hL; rw [show (List.range 23).map J = J 0 :: J 1 :: J 2 :: J 3 :: J 4 :: J 5 :: J 6 :: J 7 :: J 8 :: J 9 :: J 10 :: J 11 :: J 12 :: J 13 :: J 14 :: J 15 :: J 16 :: J 17 :: J 18 :: J 19 :: J 20 :: J 21 :: J 22 :: [] from by kernel_rfl] at hJ; replace k1 := Option.some.inj ((congrArg (·[1]?) hJ).symm.trans k1); replace k2 := Option.some.inj ((congrArg (·[2]?) hJ).symm.trans k2); replace k3 := Option.some.inj ((congrArg (·[3]?) hJ).symm.trans k3); replace k13 := Option.some.inj ((congrArg (·[13]?) hJ).symm.trans k13); replace k14 := Option.some.inj ((congrArg (·[14]?) hJ).symm.trans k14); replace k15 := Option.some.inj ((congrArg (·[15]?) hJ).symm.trans k15); rw [k1, k2, k3, k13, k14, k15] at hJ; dsimp only at hJ hT; subst hJ; replace hT := hT.symm; subst hT; clear hL k1 k2 k3 k13 k14 k15
      by_cases hi : i < l.length
      · have hz := tsz_get hi
        have hnx := visKs_take hi ns0
        rw [← h2] at hnx
        have hk := fun sto' h3 h4 h5 h6 => ih l[i] ns1 sto' lo (by omega) (by omega) h3 h4 h5 hlid h6
        clear ih
        generalize htt : l[i] = t at *
        obtain ⟨k2, n2, m2, l2⟩ := t
        repeat' (first | (refine vigo ⟨?_⟩) | (fail) | ((first | (refine bsp ?_ ?_) | (refine csp ?_ ?_)); all_goals (intro hb; (fail_if_success (cases hb; done)); (try simp only [decide_eq_true_eq, decide_eq_false_iff_not, beq_iff_eq, bne_iff_ne, ne_eq, beq_eq_false_iff_ne, bne_eq_false_iff_eq, Bool.not_eq_true', Bool.not_eq_false', Bool.and_eq_true, Bool.or_eq_true, Decidable.not_not] at hb); (try simp only [go_sem]))))
        rw [htt]
        repeat' (first | (refine vigo ⟨?_⟩) | (((with_reducible apply ops_callW); rfl; (simp (disch := (first | omega | assumption | ((repeat' with_reducible apply And.intro) <;> first | omega | assumption | rfl | (apply Or.inl; rfl) | (apply Or.inr; first | rfl | trivial | fail) | fail) | fail)) only [go_sem, if_pos, if_neg, wrapI, wrapU, decide_eq_true, decide_eq_false, beqT, beqF, bneT, bneF, hp0, hpf, hpv] <;> rfl); (exact hk _ (by simp (disch := (first | omega | assumption | ((repeat' with_reducible apply And.intro) <;> first | omega | assumption | rfl | (apply Or.inl; rfl) | (apply Or.inr; first | rfl | trivial | fail) | fail) | fail)) only [go_sem, if_pos, if_neg, wrapI, wrapU, decide_eq_true, decide_eq_false, beqT, beqF, bneT, bneF, hp0, hpf, hpv]) (by simp (disch := (first | omega | assumption | ((repeat' with_reducible apply And.intro) <;> first | omega | assumption | rfl | (apply Or.inl; rfl) | (apply Or.inr; first | rfl | trivial | fail) | fail) | fail)) only [go_sem, if_pos, if_neg, wrapI, wrapU, decide_eq_true, decide_eq_false, beqT, beqF, bneT, bneF, hp0, hpf, hpv]) (by simp (disch := (first | omega | assumption | ((repeat' with_reducible apply And.intro) <;> first | omega | assumption | rfl | (apply Or.inl; rfl) | (apply Or.inr; first | rfl | trivial | fail) | fail) | fail)) only [go_sem, if_pos, if_neg, wrapI, wrapU, decide_eq_true, decide_eq_false, beqT, beqF, bneT, bneF, hp0, hpf, hpv]) (by first | omega | (simp; done) | (simp; omega))); (simp (disch := omega) only [sC, sC2]; (exact ho_mk2 (Nat.le_refl _) hid)); (try simp (disch := (first | omega | assumption | ((repeat' with_reducible apply And.intro) <;> first | omega | assumption | rfl | (apply Or.inl; rfl) | (apply Or.inr; first | rfl | trivial | fail) | fail) | fail)) only [go_sem, if_pos, if_neg, wrapI, wrapU, decide_eq_true, decide_eq_false, beqT, beqF, bneT, bneF, hp0, hpf, hpv]))) | ((first | (refine bsp ?_ ?_) | (refine csp ?_ ?_)); all_goals (intro hb; (fail_if_success (cases hb; done)); (try simp only [decide_eq_true_eq, decide_eq_false_iff_not, beq_iff_eq, bne_iff_ne, ne_eq, beq_eq_false_iff_ne, bne_eq_false_iff_eq, Bool.not_eq_true', Bool.not_eq_false', Bool.and_eq_true, Bool.or_eq_true, Decidable.not_not] at hb); (try simp only [go_sem]))))
        refine ⟨_, _, ?_, .refl _, i + 1, visK (.mk k2 n2 m2 l2) ns1, _, ⟨by omega, rfl, hnx.symm⟩, rfl, rfl, ?_, ?_, ?_, ?_, ?_, ?_⟩
        · omega
        all_goals rfl
      · rw [List.take_of_length_le (by omega)] at h2
        repeat' (first | (refine vigo ⟨?_⟩) | (fail) | ((first | (refine bsp ?_ ?_) | (refine csp ?_ ?_)); all_goals (intro hb; (fail_if_success (cases hb; done)); (try simp only [decide_eq_true_eq, decide_eq_false_iff_not, beq_iff_eq, bne_iff_ne, ne_eq, beq_eq_false_iff_ne, bne_eq_false_iff_eq, Bool.not_eq_true', Bool.not_eq_false', Bool.and_eq_true, Bool.or_eq_true, Decidable.not_not] at hb); (try simp only [go_sem]))))
        refine ⟨by first | exact .inr rfl | exact .inl rfl, .inl ⟨[], _, (by dsimp only [Tryd.f45]; exact visv), ?_, ?_⟩⟩
        · rfl
        · simp only [sT, h2]
end Go.Proofs.YtomameefmobnlaaDoor
namespace Go.Proofs.YtomameefmobnlaaDoor
open Go Go.RowKit

attribute [local irreducible] EvOps EvC
attribute [local go_sem] List.getElem?_toArray List.flatten_cons List.flatten_nil List.contains_nil List.append_nil List.length_set Bool.and_self implies_true eq_self List.contains_cons beq_self_eq_true Bool.true_or
theorem allNode : ([Value.int .i64 0, .int .i64 0, .int .i64 0, .slice none 0 0].all fun x => x.oneCell') = true := rfl
attribute [local go_sem] getS sD flat_repT allNode
theorem pugo {p q : Prop} (k : Later q) (h : Later q → p := by (intro k; (first | with_reducible (first | refine c_seq ?_ | refine c_block ?_ | refine c_region ?_ | refine c_skip ?_ | refine c_exit ?_ | refine c_ret ?_ | refine then_normal ?_ | refine then_exit ?_ | refine then_ret ?_ | refine block_normal ?_ | refine block_here ?_ | refine block_ret ?_ | refine block_far (by decide) ?_ | refine ops_nil ?_ | refine c_cond_t rfl ?_ | refine c_cond_f rfl ?_) | ((with_reducible apply ops_pure); rfl; (simp (disch := (first | omega | assumption | ((repeat' with_reducible apply And.intro) <;> first | omega | assumption | rfl | (apply Or.inl; rfl) | (apply Or.inr; first | rfl | trivial | fail) | fail) | fail)) only [go_sem, if_pos, if_neg, wrapI, wrapU, decide_eq_true, decide_eq_false, beqT, beqF, bneT, bneF, hpl, hpt, hpb] <;> rfl); simp only [go_sem]) | ((with_reducible apply ops_pureF); rfl; (intro _; simp (disch := (first | omega | assumption | ((repeat' with_reducible apply And.intro) <;> first | omega | assumption | rfl | (apply Or.inl; rfl) | (apply Or.inr; first | rfl | trivial | fail) | fail) | fail)) only [go_sem, if_pos, if_neg, wrapI, wrapU, decide_eq_true, decide_eq_false, beqT, beqF, bneT, bneF, hpl, hpt, hpb] <;> rfl); simp only [go_sem]) | ((with_reducible apply ops_pureD); kernel_rfl; rfl; (simp (disch := (first | omega | assumption | ((repeat' with_reducible apply And.intro) <;> first | omega | assumption | rfl | (apply Or.inl; rfl) | (apply Or.inr; first | rfl | trivial | fail) | fail) | fail)) only [go_sem, if_pos, if_neg, wrapI, wrapU, decide_eq_true, decide_eq_false, beqT, beqF, bneT, bneF, hpl, hpt, hpb] <;> rfl); simp only [go_sem]) | ((with_reducible apply ops_skip); rfl; simp only [go_sem]) | ((with_reducible apply c_regionD); kernel_rfl) | ((with_reducible apply ops_eff); decide; rfl; (simp (disch := (first | omega | assumption | ((repeat' with_reducible apply And.intro) <;> first | omega | assumption | rfl | (apply Or.inl; rfl) | (apply Or.inr; first | rfl | trivial | fail) | fail) | fail)) only [go_sem, if_pos, if_neg, wrapI, wrapU, decide_eq_true, decide_eq_false, beqT, beqF, bneT, bneF, hpl, hpt, hpb] <;> rfl); simp only [go_sem])); (repeat (first | with_reducible (first | refine c_seq ?_ | refine c_block ?_ | refine c_region ?_ | refine c_skip ?_ | refine c_exit ?_ | refine c_ret ?_ | refine then_normal ?_ | refine then_exit ?_ | refine then_ret ?_ | refine block_normal ?_ | refine block_here ?_ | refine block_ret ?_ | refine block_far (by decide) ?_ | refine ops_nil ?_ | refine c_cond_t rfl ?_ | refine c_cond_f rfl ?_) | ((with_reducible apply ops_pure); rfl; (simp (disch := (first | omega | assumption | ((repeat' with_reducible apply And.intro) <;> first | omega | assumption | rfl | (apply Or.inl; rfl) | (apply Or.inr; first | rfl | trivial | fail) | fail) | fail)) only [go_sem, if_pos, if_neg, wrapI, wrapU, decide_eq_true, decide_eq_false, beqT, beqF, bneT, bneF, hpl, hpt, hpb] <;> rfl); simp only [go_sem]) | ((with_reducible apply ops_pureF); rfl; (intro _; simp (disch := (first | omega | assumption | ((repeat' with_reducible apply And.intro) <;> first | omega | assumption | rfl | (apply Or.inl; rfl) | (apply Or.inr; first | rfl | trivial | fail) | fail) | fail)) only [go_sem, if_pos, if_neg, wrapI, wrapU, decide_eq_true, decide_eq_false, beqT, beqF, bneT, bneF, hpl, hpt, hpb] <;> rfl); simp only [go_sem]) | ((with_reducible apply ops_pureD); kernel_rfl; rfl; (simp (disch := (first | omega | assumption | ((repeat' with_reducible apply And.intro) <;> first | omega | assumption | rfl | (apply Or.inl; rfl) | (apply Or.inr; first | rfl | trivial | fail) | fail) | fail)) only [go_sem, if_pos, if_neg, wrapI, wrapU, decide_eq_true, decide_eq_false, beqT, beqF, bneT, bneF, hpl, hpt, hpb] <;> rfl); simp only [go_sem]) | ((with_reducible apply ops_skip); rfl; simp only [go_sem]) | ((with_reducible apply c_regionD); kernel_rfl) | ((with_reducible apply ops_eff); decide; rfl; (simp (disch := (first | omega | assumption | ((repeat' with_reducible apply And.intro) <;> first | omega | assumption | rfl | (apply Or.inl; rfl) | (apply Or.inr; first | rfl | trivial | fail) | fail) | fail)) only [go_sem, if_pos, if_neg, wrapI, wrapU, decide_eq_true, decide_eq_false, beqT, beqF, bneT, bneF, hpl, hpt, hpb] <;> rfl); simp only [go_sem]))); exact k.get)) : p := h k
theorem pugoX {p q : Prop} (k : Later q) (h : Later q → p := by (intro k; (first | with_reducible (first | refine c_seq ?_ | refine c_block ?_ | refine c_skip ?_ | refine c_exit ?_ | refine c_ret ?_ | refine then_normal ?_ | refine then_exit ?_ | refine then_ret ?_ | refine block_normal ?_ | refine block_here ?_ | refine block_ret ?_ | refine block_far (by decide) ?_ | refine ops_nil ?_ | refine c_cond_t rfl ?_ | refine c_cond_f rfl ?_) | ((with_reducible apply ops_pure); rfl; (simp (disch := (first | omega | assumption | ((repeat' with_reducible apply And.intro) <;> first | omega | assumption | rfl | (apply Or.inl; rfl) | (apply Or.inr; first | rfl | trivial | fail) | fail) | fail)) only [go_sem, if_pos, if_neg, wrapI, wrapU, decide_eq_true, decide_eq_false, beqT, beqF, bneT, bneF, hpl, hpt, hpb] <;> rfl); simp only [go_sem]) | ((with_reducible apply ops_pureF); rfl; (intro _; simp (disch := (first | omega | assumption | ((repeat' with_reducible apply And.intro) <;> first | omega | assumption | rfl | (apply Or.inl; rfl) | (apply Or.inr; first | rfl | trivial | fail) | fail) | fail)) only [go_sem, if_pos, if_neg, wrapI, wrapU, decide_eq_true, decide_eq_false, beqT, beqF, bneT, bneF, hpl, hpt, hpb] <;> rfl); simp only [go_sem]) | ((with_reducible apply ops_pureD); kernel_rfl; rfl; (simp (disch := (first | omega | assumption | ((repeat' with_reducible apply And.intro) <;> first | omega | assumption | rfl | (apply Or.inl; rfl) | (apply Or.inr; first | rfl | trivial | fail) | fail) | fail)) only [go_sem, if_pos, if_neg, wrapI, wrapU, decide_eq_true, decide_eq_false, beqT, beqF, bneT, bneF, hpl, hpt, hpb] <;> rfl); simp only [go_sem]) | ((with_reducible apply ops_skip); rfl; simp only [go_sem]) | ((with_reducible apply c_regionD); kernel_rfl) | ((with_reducible apply ops_eff); decide; rfl; (simp (disch := (first | omega | assumption | ((repeat' with_reducible apply And.intro) <;> first | omega | assumption | rfl | (apply Or.inl; rfl) | (apply Or.inr; first | rfl | trivial | fail) | fail) | fail)) only [go_sem, if_pos, if_neg, wrapI, wrapU, decide_eq_true, decide_eq_false, beqT, beqF, bneT, bneF, hpl, hpt, hpb] <;> rfl); simp only [go_sem])); (repeat (first | with_reducible (first | refine c_seq ?_ | refine c_block ?_ | refine c_skip ?_ | refine c_exit ?_ | refine c_ret ?_ | refine then_normal ?_ | refine then_exit ?_ | refine then_ret ?_ | refine block_normal ?_ | refine block_here ?_ | refine block_ret ?_ | refine block_far (by decide) ?_ | refine ops_nil ?_ | refine c_cond_t rfl ?_ | refine c_cond_f rfl ?_) | ((with_reducible apply ops_pure); rfl; (simp (disch := (first | omega | assumption | ((repeat' with_reducible apply And.intro) <;> first | omega | assumption | rfl | (apply Or.inl; rfl) | (apply Or.inr; first | rfl | trivial | fail) | fail) | fail)) only [go_sem, if_pos, if_neg, wrapI, wrapU, decide_eq_true, decide_eq_false, beqT, beqF, bneT, bneF, hpl, hpt, hpb] <;> rfl); simp only [go_sem]) | ((with_reducible apply ops_pureF); rfl; (intro _; simp (disch := (first | omega | assumption | ((repeat' with_reducible apply And.intro) <;> first | omega | assumption | rfl | (apply Or.inl; rfl) | (apply Or.inr; first | rfl | trivial | fail) | fail) | fail)) only [go_sem, if_pos, if_neg, wrapI, wrapU, decide_eq_true, decide_eq_false, beqT, beqF, bneT, bneF, hpl, hpt, hpb] <;> rfl); simp only [go_sem]) | ((with_reducible apply ops_pureD); kernel_rfl; rfl; (simp (disch := (first | omega | assumption | ((repeat' with_reducible apply And.intro) <;> first | omega | assumption | rfl | (apply Or.inl; rfl) | (apply Or.inr; first | rfl | trivial | fail) | fail) | fail)) only [go_sem, if_pos, if_neg, wrapI, wrapU, decide_eq_true, decide_eq_false, beqT, beqF, bneT, bneF, hpl, hpt, hpb] <;> rfl); simp only [go_sem]) | ((with_reducible apply ops_skip); rfl; simp only [go_sem]) | ((with_reducible apply c_regionD); kernel_rfl) | ((with_reducible apply ops_eff); decide; rfl; (simp (disch := (first | omega | assumption | ((repeat' with_reducible apply And.intro) <;> first | omega | assumption | rfl | (apply Or.inl; rfl) | (apply Or.inr; first | rfl | trivial | fail) | fail) | fail)) only [go_sem, if_pos, if_neg, wrapI, wrapU, decide_eq_true, decide_eq_false, beqT, beqF, bneT, bneF, hpl, hpt, hpb] <;> rfl); simp only [go_sem]))); exact k.get)) : p := h k
theorem pusv {p : Prop} (h : p := by simp (disch := (first | omega | assumption | ((repeat' with_reducible apply And.intro) <;> first | omega | assumption | rfl | (apply Or.inl; rfl) | (apply Or.inr; first | rfl | trivial | fail) | fail) | fail)) only [go_sem, if_pos, if_neg, wrapI, wrapU, decide_eq_true, decide_eq_false, beqT, beqF, bneT, bneF, hpl, hpt, hpb] <;> rfl) : p := h
theorem pucall {T : Tab} {X : CallP} {n0 lo : Nat} {wt : List Tmp} {draw : Bool} {ops : Array Oper} {Q : St → Prop} {rest : List Oper} {o : Oper} {env : List D} {sto : Sto} {f : FuncId} {args : List D} (k : ∃ r, X f args sto (if draw then sto.length else lo) r sto ∧ EvOps T X n0 lo wt draw ops Q rest (St.put ⟨env, sto⟩ o.dst r)) (hg : guardD ops o env = some true := by rfl) (h : evCallee (opd env) sto o = some (f, args) := by simp (disch := (first | omega | assumption | ((repeat' with_reducible apply And.intro) <;> first | omega | assumption | rfl | (apply Or.inl; rfl) | (apply Or.inr; first | rfl | trivial | fail) | fail) | fail)) only [go_sem, if_pos, if_neg, wrapI, wrapU, decide_eq_true, decide_eq_false, beqT, beqF, bneT, bneF, hpl, hpt, hpb] <;> rfl) : EvOps T X n0 lo wt draw ops Q (o :: rest) ⟨env, sto⟩ := k.elim fun _ k => ops_call hg h k.1 k.2
set_option linter.unusedSimpArgs false
set_option linter.unusedVariables false
set_option maxRecDepth 100000
set_option maxHeartbeats 4000000
abbrev put.f : FuncId := 54
theorem put1_ev (L : List Tr) (lb tb pb : Nat) (hL : L.length < 1000000) (N : Nat) : ∀ (t : Tr) (sto : Sto) (lo : Nat), tsz t ≤ N → tsz t < 1000000 → (∀ p ∈ varP t, 0 ≤ p.1) → sto[lb]? = some (.cells [.v (.sl L.length (cellsTs L))]) → sto[tb]? = some (.cells [.v (LI (L.map validS))]) → sto[pb]? = some (.cells [.clo put.f [lb, tb, pb]]) → lo ≤ sto.length →
    CallEv Tryd.prog tab B0 put.f [.v (TV t), .ptr lb 0, .ptr tb 0, .ptr pb 0] sto lo (.v (TV (putS L t))) sto := by
  induction N with
  | zero => intro t sto lo h; have := tsz_pos t; omega
  | succ N ih =>
    intro t sto lo hN hs hv hpl hpt hpb hlo
    obtain ⟨k, n, m, l⟩ := t
    simp only [tsz] at hN hs
    have hll := tszs_length l
    have hll1 : lb < sto.length := (List.getElem?_eq_some_iff.1 hpl).1
    have hlt1 : tb < sto.length := (List.getElem?_eq_some_iff.1 hpt).1
    have hlb1 : pb < sto.length := (List.getElem?_eq_some_iff.1 hpb).1
    rw [putS]
    by_cases k6 : k = 6
    · subst k6
      rw [if_pos rfl]
      have hn0 : 0 ≤ n := hv (n, m) (by rw [varP, if_pos rfl]; simp)
      clear ih hv hN
      obtain ⟨j, rfl⟩ := Int.eq_ofNat_of_zero_le hn0
      by_cases c : (j : Int) < L.length
      · have hj : j < L.length := by omega
        rw [Int.toNat_natCast, show L.getD j (.mk 0 0 0 []) = L[j] from by simp [List.getD, hj]]
        by_cases c2 : validS L[j] = m
        · rw [if_pos ⟨c, c2⟩]
          have htt : ∃ k2 n2 m2 l2, L[j] = .mk k2 n2 m2 l2 := by
            cases L[j] with
            | mk a b c d => exact ⟨a, b, c, d, rfl⟩
          obtain ⟨k2, n2, m2, l2, htt⟩ := htt
          refine CallEv.intro ⟨_, _, [], Tryd.func54, rfl, by decide, ?_⟩; simp only [go_sem, Tryd.ntmps54]
          repeat' (first | (refine pugo ⟨?_⟩) | (fail) | ((first | (refine bsp ?_ ?_) | (refine csp ?_ ?_)); all_goals (intro hb; (fail_if_success (cases hb; done)); (try simp only [decide_eq_true_eq, decide_eq_false_iff_not, beq_iff_eq, bne_iff_ne, ne_eq, beq_eq_false_iff_ne, bne_eq_false_iff_eq, Bool.not_eq_true', Bool.not_eq_false', Bool.and_eq_true, Bool.or_eq_true, Decidable.not_not] at hb); (try simp only [go_sem]))))
          rw [htt]
          repeat' (first | (refine pugo ⟨?_⟩) | (fail) | ((first | (refine bsp ?_ ?_) | (refine csp ?_ ?_)); all_goals (intro hb; (fail_if_success (cases hb; done)); (try simp only [decide_eq_true_eq, decide_eq_false_iff_not, beq_iff_eq, bne_iff_ne, ne_eq, beq_eq_false_iff_ne, bne_eq_false_iff_eq, Bool.not_eq_true', Bool.not_eq_false', Bool.and_eq_true, Bool.or_eq_true, Decidable.not_not] at hb); (try simp only [go_sem]))))
          refine ⟨by first | exact .inr rfl | exact .inl rfl, .inl ⟨[], _, (by dsimp only [Tryd.f54]; exact pusv), ?_, by simp⟩⟩
          rfl
        · rw [if_neg (fun h => c2 h.2)]
          refine CallEv.intro ⟨_, _, [], Tryd.func54, rfl, by decide, ?_⟩; simp only [go_sem, Tryd.ntmps54]
          repeat' (first | (refine pugo ⟨?_⟩) | (fail) | ((first | (refine bsp ?_ ?_) | (refine csp ?_ ?_)); all_goals (intro hb; (fail_if_success (cases hb; done)); (try simp only [decide_eq_true_eq, decide_eq_false_iff_not, beq_iff_eq, bne_iff_ne, ne_eq, beq_eq_false_iff_ne, bne_eq_false_iff_eq, Bool.not_eq_true', Bool.not_eq_false', Bool.and_eq_true, Bool.or_eq_true, Decidable.not_not] at hb); (try simp only [go_sem]))))
          refine ⟨by first | exact .inr rfl | exact .inl rfl, .inl ⟨[], _, (by dsimp only [Tryd.f54]; exact pusv), ?_, by simp⟩⟩
          rfl
      · rw [if_neg (fun h => c h.1)]
        refine CallEv.intro ⟨_, _, [], Tryd.func54, rfl, by decide, ?_⟩; simp only [go_sem, Tryd.ntmps54]
        repeat' (first | (refine pugo ⟨?_⟩) | (fail) | ((first | (refine bsp ?_ ?_) | (refine csp ?_ ?_)); all_goals (intro hb; (fail_if_success (cases hb; done)); (try simp only [decide_eq_true_eq, decide_eq_false_iff_not, beq_iff_eq, bne_iff_ne, ne_eq, beq_eq_false_iff_ne, bne_eq_false_iff_eq, Bool.not_eq_true', Bool.not_eq_false', Bool.and_eq_true, Bool.or_eq_true, Decidable.not_not] at hb); (try simp only [go_sem]))))
        refine ⟨by first | exact .inr rfl | exact .inl rfl, .inl ⟨[], _, (by dsimp only [Tryd.f54]; exact pusv), ?_, by simp⟩⟩
        rfl
    · rw [if_neg k6, putSs_map]
      have hkv : ∀ t ∈ l, ∀ p ∈ varP t, 0 ≤ p.1 := by
        intro t ht p hp
        refine hv p ?_
        rw [varP, if_neg k6, List.nil_append]
        clear hv ih hN hs hll
        induction l with
        | nil => cases ht
        | cons a l ih =>
          rw [varPs, List.mem_append]
          rcases List.mem_cons.1 ht with rfl | ht
          · exact .inl hp
          · exact .inr (ih ht)
      clear hv
      refine CallEv.intro ⟨_, _, [36], Tryd.func54, rfl, by decide, ?_⟩; simp only [go_sem, Tryd.ntmps54]
      repeat' (first | (refine pugo ⟨?_⟩) | (fail) | ((first | (refine bsp ?_ ?_) | (refine csp ?_ ?_)); all_goals (intro hb; (fail_if_success (cases hb; done)); (try simp only [decide_eq_true_eq, decide_eq_false_iff_not, beq_iff_eq, bne_iff_ne, ne_eq, beq_eq_false_iff_ne, bne_eq_false_iff_eq, Bool.not_eq_true', Bool.not_eq_false', Bool.and_eq_true, Bool.or_eq_true, Decidable.not_not] at hb); (try simp only [go_sem]))))
      refine c_loop (fun mm s => ∃ (i : Nat) (xs : List Tr) (js : List Ent), (i ≤ l.length ∧ mm = l.length - i ∧ xs.length = l.length ∧ xs.take i = (l.map (putS L)).take i) ∧ (s.env.length = 55 ∧ s.sto = sto ++ .cells [.v (VI k), .v (VI n), .v (VI m), .v (.sl l.length (cellsTs l))] :: .cells [.v (VI 0), .v (VI 0), .v (VI 0), .nilS] :: .arr (some (25, 4)) true l.length (cellsTs xs) :: js ∧ s.env[1]? = some (.ptr lb 0) ∧ s.env[2]? = some (.ptr tb 0) ∧ s.env[3]? = some (.ptr pb 0) ∧ s.env[4]? = some (.ptr sto.length 0) ∧ s.env[5]? = some (.ptr (sto.length + 1) 0) ∧ s.env[6]? = some (.arr (sto.length + 2) l.length) ∧ s.env[38]? = some (.v (.sl l.length (cellsTs l))) ∧ s.env[39]? = some (.v (VI l.length)) ∧ s.env[40]? = some (.v (VI i)))) (.refl _) ⟨0, List.replicate l.length (.mk 0 0 0 []), [], ⟨by omega, rfl, by simp, by simp⟩, rfl, rfl, ?_, ?_, ?_, ?_, ?_, ?_, ?_, ?_, ?_⟩ ?_
      all_goals first | rfl | skip
      rintro mm s ⟨i, xs, js, ⟨h1, rfl, h2, h3⟩, hL, hT, k1, k2, k3, k4, k5, k6, k38, k39, k40⟩
      obtain ⟨env, st0⟩ := s; obtain ⟨J, hJ⟩ := listJ hL; rw [show (List.range 55).map J = J 0 :: J 1 :: J 2 :: J 3 :: J 4 :: J 5 :: J 6 :: J 7 :: J 8 :: J 9 :: J 10 :: J 11 :: J 12 :: J 13 :: J 14 :: J 15 :: J 16 :: J 17 :: J 18 :: J 19 :: J 20 :: J 21 :: J 22 :: J 23 :: J 24 :: J 25 :: J 26 :: J 27 :: J 28 :: J 29 :: J 30 :: J 31 :: J 32 :: J 33 :: J 34 :: J 35 :: J 36 :: J 37 :: J 38 :: J 39 :: J 40 :: J 41 :: J 42 :: J 43 :: J 44 :: J 45 :: J 46 :: J 47 :: J 48 :: J 49 :: J 50 :: J 51 :: J 52 :: J 53 :: J 54 :: [] from by kernel_rfl] at hJ; replace k1 := Option.some.inj ((congrArg (·[1]?) hJ).symm.trans k1); replace k2 := Option.some.inj ((congrArg (·[2]?) hJ).symm.trans k2); replace k3 := Option.some.inj ((congrArg (·[3]?) hJ).symm.trans k3); replace k4 := Option.some.inj ((congrArg (·[4]?) hJ).symm.trans k4); replace k5 := Option.some.inj ((congrArg (·[5]?) hJ).symm.trans k5); replace k6 := Option.some.inj ((congrArg (·[6]?) hJ).symm.trans k6); replace k38 := Option.some.inj ((congrArg (·[38]?) hJ).symm.trans k38); replace k39 := Option.some.inj ((congrArg (·[39]?) hJ).symm.trans k39); replace k40 := Option.some.inj ((congrArg (·[40]?) hJ).symm.trans k40); rw [k1, k2, k3, k4, k5, k6, k38, k39, k40] at hJ; dsimp only at hJ hT; subst hJ; replace hT := hT.symm; subst hT; clear hL k1 k2 k3 k4 k5 k6 k38 k39 k40
      by_cases hi : i < l.length
      · have hz := tsz_get hi
        have hk := fun sto' lo q1 q2 q3 q4 => ih l[i] sto' lo (by omega) (by omega) (hkv _ (List.getElem_mem hi)) q1 q2 q3 q4
        have hnx : (xs.set i (putS L l[i])).take (i + 1) = (l.map (putS L)).take (i + 1) := by
          rw [List.take_succ_eq_append_getElem (by simpa using by omega), List.getElem_set_self, List.take_set_of_le (by omega), h3, List.take_succ_eq_append_getElem (by simpa using hi), List.getElem_map]
        have hcs := cellsTs_set (l := xs) (i := i) (by omega) (putS L l[i])
        clear ih hkv
        generalize htt : l[i] = t at *
        generalize putS L t = r at *
        obtain ⟨k2, n2, m2, l2⟩ := t
        obtain ⟨k3, n3, m3, l3⟩ := r
        repeat' (first | (refine pugo ⟨?_⟩) | (fail) | ((first | (refine bsp ?_ ?_) | (refine csp ?_ ?_)); all_goals (intro hb; (fail_if_success (cases hb; done)); (try simp only [decide_eq_true_eq, decide_eq_false_iff_not, beq_iff_eq, bne_iff_ne, ne_eq, beq_eq_false_iff_ne, bne_eq_false_iff_eq, Bool.not_eq_true', Bool.not_eq_false', Bool.and_eq_true, Bool.or_eq_true, Decidable.not_not] at hb); (try simp only [go_sem]))))
        rw [htt]
        repeat' (first | (refine pugo ⟨?_⟩) | (((refine pucall ?_); (refine ⟨_, hk _ _ (by simp (disch := (first | omega | assumption | ((repeat' with_reducible apply And.intro) <;> first | omega | assumption | rfl | (apply Or.inl; rfl) | (apply Or.inr; first | rfl | trivial | fail) | fail) | fail)) only [go_sem, if_pos, if_neg, wrapI, wrapU, decide_eq_true, decide_eq_false, beqT, beqF, bneT, bneF, hpl, hpt, hpb]) (by simp (disch := (first | omega | assumption | ((repeat' with_reducible apply And.intro) <;> first | omega | assumption | rfl | (apply Or.inl; rfl) | (apply Or.inr; first | rfl | trivial | fail) | fail) | fail)) only [go_sem, if_pos, if_neg, wrapI, wrapU, decide_eq_true, decide_eq_false, beqT, beqF, bneT, bneF, hpl, hpt, hpb]) (by simp (disch := (first | omega | assumption | ((repeat' with_reducible apply And.intro) <;> first | omega | assumption | rfl | (apply Or.inl; rfl) | (apply Or.inr; first | rfl | trivial | fail) | fail) | fail)) only [go_sem, if_pos, if_neg, wrapI, wrapU, decide_eq_true, decide_eq_false, beqT, beqF, bneT, bneF, hpl, hpt, hpb]) (by first | omega | (simp; done) | (simp; omega)), ?_⟩); (try simp only [go_sem]))) | ((first | (refine bsp ?_ ?_) | (refine csp ?_ ?_)); all_goals (intro hb; (fail_if_success (cases hb; done)); (try simp only [decide_eq_true_eq, decide_eq_false_iff_not, beq_iff_eq, bne_iff_ne, ne_eq, beq_eq_false_iff_ne, bne_eq_false_iff_eq, Bool.not_eq_true', Bool.not_eq_false', Bool.and_eq_true, Bool.or_eq_true, Decidable.not_not] at hb); (try simp only [go_sem]))))
        simp only [cellsT, List.cons_append, List.nil_append] at hcs
        rw [hcs]
        repeat' (first | (refine pugo ⟨?_⟩) | (fail) | ((first | (refine bsp ?_ ?_) | (refine csp ?_ ?_)); all_goals (intro hb; (fail_if_success (cases hb; done)); (try simp only [decide_eq_true_eq, decide_eq_false_iff_not, beq_iff_eq, bne_iff_ne, ne_eq, beq_eq_false_iff_ne, bne_eq_false_iff_eq, Bool.not_eq_true', Bool.not_eq_false', Bool.and_eq_true, Bool.or_eq_true, Decidable.not_not] at hb); (try simp only [go_sem]))))
        refine ⟨_, _, ?_, .refl _, i + 1, xs.set i (.mk k3 n3 m3 l3), _, ⟨by omega, rfl, by simpa using h2, hnx⟩, rfl, rfl, ?_, ?_, ?_, ?_, ?_, ?_, ?_, ?_, ?_⟩
        · omega
        all_goals rfl
      · rw [List.take_of_length_le (by omega), List.take_of_length_le (by simp; omega)] at h3
        subst h3
        repeat' (first | (refine pugo ⟨?_⟩) | (fail) | ((first | (refine bsp ?_ ?_) | (refine csp ?_ ?_)); all_goals (intro hb; (fail_if_success (cases hb; done)); (try simp only [decide_eq_true_eq, decide_eq_false_iff_not, beq_iff_eq, bne_iff_ne, ne_eq, beq_eq_false_iff_ne, bne_eq_false_iff_eq, Bool.not_eq_true', Bool.not_eq_false', Bool.and_eq_true, Bool.or_eq_true, Decidable.not_not] at hb); (try simp only [go_sem]))))
        refine ⟨by first | exact .inr rfl | exact .inl rfl, .inl ⟨[sto.length + 2], _, (by dsimp only [Tryd.f54]; exact pusv), ?_, by simp⟩⟩
        show D.v (.agg (cellsT (.mk k n m (l.map (putS L))))) = _
        simp only [cellsT, List.length_map]
end Go.Proofs.YtomameefmobnlaaDoor
namespace Go.Proofs.YtomameefmobnlaaDoor
open Go Go.RowKit

attribute [local irreducible] EvOps EvC
attribute [local go_sem] List.getElem?_toArray List.flatten_cons List.flatten_nil List.contains_nil List.append_nil List.length_set Bool.and_self implies_true eq_self List.contains_cons beq_self_eq_true Bool.true_or viewC
theorem flat_rep2 (n : Nat) : (List.replicate n [V.int .i64 0]).flatten = (List.replicate n (0 : Int)).map VI := by
  induction n with
  | zero => rfl
  | succ n ih => rw [List.replicate_succ, List.flatten_cons, ih, List.replicate_succ]; rfl
attribute [local go_sem] flat_rep2 List.getElem?_set_self
set_option linter.unusedSimpArgs false
set_option linter.unusedVariables false
set_option maxRecDepth 100000
set_option maxHeartbeats 4000000
theorem valid_neg {t : Tr} (h : ¬ 0 ≤ validS t) : validS t = -1 := by
  unfold validS at h ⊢
  split at h
  · rename_i hs
    rw [Bool.and_eq_true] at hs
    have := (shaped_wt t hs.1).kind
    omega
  · rename_i hs; rw [if_neg hs]
theorem putV_ev (hval : ∀ (t : Tr) (sto : Sto) (lo : Nat), tsz t < 1000000 → lo ≤ sto.length → CallEv Tryd.prog tab B0 13 [.v (TV t)] sto lo (.v (.tup [VI (max (validS t) 0), .bool (decide (0 ≤ validS t))])) sto)
    (t : Tr) (L : List Tr) (hs : tsz t < 1000000) (hL : tszs L < 1000000) (hv : ∀ p ∈ varP t, 0 ≤ p.1) (sto : Sto) (lo : Nat) (hlo : lo ≤ sto.length) :
    CallEv Tryd.prog tab B0 25 [.v (TV t), .v (.sl L.length (cellsTs L))] sto lo (.v (TV (putS L t))) sto := by
  have hll := tszs_length L
  have hput := fun lb tb pb sto lo q1 q2 q3 q4 => put1_ev L lb tb pb (by omega) (tsz t) t sto lo (Nat.le_refl _) hs hv q1 q2 q3 q4
  clear hv hs
  generalize putS L t = r at *
  obtain ⟨k, n, m, l⟩ := t
  obtain ⟨k3, n3, m3, l3⟩ := r
  refine CallEv.intro ⟨_, _, [13], Tryd.func25, rfl, by decide, ?_⟩; simp only [go_sem, Tryd.ntmps25]
  repeat' (first | (refine go ⟨?_⟩) | (fail) | ((first | (refine bsp ?_ ?_) | (refine csp ?_ ?_)); all_goals (intro hb; (fail_if_success (cases hb; done)); (try simp only [decide_eq_true_eq, decide_eq_false_iff_not, beq_iff_eq, bne_iff_ne, ne_eq, beq_eq_false_iff_ne, bne_eq_false_iff_eq, Bool.not_eq_true', Bool.not_eq_false', Bool.and_eq_true, Bool.or_eq_true, Decidable.not_not] at hb); (try simp only [go_sem]))))
  refine c_loop (fun mm s => ∃ (i : Nat) (ts : List Int) (js : List Ent), (i ≤ L.length ∧ mm = L.length - i ∧ ts.length = L.length ∧ ts.take i = (L.map validS).take i) ∧ (s.env.length = 39 ∧ s.sto = sto ++ .cells [.v (VI k), .v (VI n), .v (VI m), .v (.sl l.length (cellsTs l))] :: .cells [.v (.sl L.length (cellsTs L))] :: .cells [.v (VI 0), .v (VI 0), .v (VI 0), .nilS] :: .arr (some (3, 1)) true L.length (ts.map VI) :: .cells [.arr (sto.length + 3) L.length] :: js ∧ s.env[2]? = some (.ptr sto.length 0) ∧ s.env[3]? = some (.ptr (sto.length + 1) 0) ∧ s.env[4]? = some (.ptr (sto.length + 2) 0) ∧ s.env[5]? = some (.ptr (sto.length + 4) 0) ∧ s.env[14]? = some (.v (.sl L.length (cellsTs L))) ∧ s.env[15]? = some (.v (VI L.length)) ∧ s.env[16]? = some (.v (VI i)))) (.refl _) ⟨0, List.replicate L.length 0, [], ⟨by omega, rfl, by simp, by simp⟩, rfl, rfl, ?_, ?_, ?_, ?_, ?_, ?_, ?_⟩ ?_
  all_goals first | rfl | skip
  rintro mm s ⟨i, ts, js, ⟨h1, rfl, h2, h3⟩, hL, hT, k2, k3, k4, k5, k14, k15, k16⟩
  obtain ⟨env, st0⟩ := s; obtain ⟨J, hJ⟩ := listJ hL; rw [show (List.range 39).map J = J 0 :: J 1 :: J 2 :: J 3 :: J 4 :: J 5 :: J 6 :: J 7 :: J 8 :: J 9 :: J 10 :: J 11 :: J 12 :: J 13 :: J 14 :: J 15 :: J 16 :: J 17 :: J 18 :: J 19 :: J 20 :: J 21 :: J 22 :: J 23 :: J 24 :: J 25 :: J 26 :: J 27 :: J 28 :: J 29 :: J 30 :: J 31 :: J 32 :: J 33 :: J 34 :: J 35 :: J 36 :: J 37 :: J 38 :: [] from by kernel_rfl] at hJ; replace k2 := Option.some.inj ((congrArg (·[2]?) hJ).symm.trans k2); replace k3 := Option.some.inj ((congrArg (·[3]?) hJ).symm.trans k3); replace k4 := Option.some.inj ((congrArg (·[4]?) hJ).symm.trans k4); replace k5 := Option.some.inj ((congrArg (·[5]?) hJ).symm.trans k5); replace k14 := Option.some.inj ((congrArg (·[14]?) hJ).symm.trans k14); replace k15 := Option.some.inj ((congrArg (·[15]?) hJ).symm.trans k15); replace k16 := Option.some.inj ((congrArg (·[16]?) hJ).symm.trans k16); rw [k2, k3, k4, k5, k14, k15, k16] at hJ; dsimp only at hJ hT; subst hJ; replace hT := hT.symm; subst hT; clear hL k2 k3 k4 k5 k14 k15 k16
  by_cases hi : i < L.length
  · have hz := tsz_get hi
    have hvl := fun sto lo hlo => hval L[i] sto lo (by omega) hlo
    have hnx : ∀ xs : List Int, xs.length = L.length → xs.take i = ts.take i → xs[i]? = some (validS L[i]) → xs.take (i + 1) = (L.map validS).take (i + 1) := by
      intro xs q1 q2 q3
      rw [List.take_succ_eq_append_getElem (by omega), q2, h3, List.take_succ_eq_append_getElem (by simpa using hi), List.getElem_map]
      rw [List.getElem?_eq_getElem (by omega)] at q3
      rw [Option.some.inj q3]
    have hng : ¬ 0 ≤ validS L[i] → validS L[i] = -1 := fun hh => valid_neg hh
    generalize htt : L[i] = t at *
    generalize validS t = v at *
    clear hval hput
    obtain ⟨k2, n2, m2, l2⟩ := t
    repeat' (first | (refine go ⟨?_⟩) | (fail) | ((first | (refine bsp ?_ ?_) | (refine csp ?_ ?_)); all_goals (intro hb; (fail_if_success (cases hb; done)); (try simp only [decide_eq_true_eq, decide_eq_false_iff_not, beq_iff_eq, bne_iff_ne, ne_eq, beq_eq_false_iff_ne, bne_eq_false_iff_eq, Bool.not_eq_true', Bool.not_eq_false', Bool.and_eq_true, Bool.or_eq_true, Decidable.not_not] at hb); (try simp only [go_sem]))))
    rw [htt]
    repeat' (first | (refine go ⟨?_⟩) | (fail) | ((first | (refine bsp ?_ ?_) | (refine csp ?_ ?_)); all_goals (intro hb; (fail_if_success (cases hb; done)); (try simp only [decide_eq_true_eq, decide_eq_false_iff_not, beq_iff_eq, bne_iff_ne, ne_eq, beq_eq_false_iff_ne, bne_eq_false_iff_eq, Bool.not_eq_true', Bool.not_eq_false', Bool.and_eq_true, Bool.or_eq_true, Decidable.not_not] at hb); (try simp only [go_sem]))))
    rw [mapSet (f := VI) (by omega)]
    by_cases c : 0 ≤ v
    · rw [decide_eq_true c, Int.max_eq_left c] at hvl
      repeat' (first | (refine go ⟨?_⟩) | (((refine call ?_); (refine ⟨_, hvl _ _ (by first | omega | (simp; done) | (simp; omega)), ?_⟩); (try simp only [go_sem]))) | ((first | (refine bsp ?_ ?_) | (refine csp ?_ ?_)); all_goals (intro hb; (fail_if_success (cases hb; done)); (try simp only [decide_eq_true_eq, decide_eq_false_iff_not, beq_iff_eq, bne_iff_ne, ne_eq, beq_eq_false_iff_ne, bne_eq_false_iff_eq, Bool.not_eq_true', Bool.not_eq_false', Bool.and_eq_true, Bool.or_eq_true, Decidable.not_not] at hb); (try simp only [go_sem]))))
      rw [mapSet (f := VI) (by simpa using by omega), List.set_set]
      refine ⟨_, _, ?_, .refl _, i + 1, ts.set i v, _, ⟨by omega, rfl, by simpa using h2, hnx _ (by simpa using h2) (List.take_set_of_le (by omega)) (by rw [List.getElem?_set_self (by omega)])⟩, rfl, rfl, ?_, ?_, ?_, ?_, ?_, ?_, ?_⟩
      · omega
      all_goals rfl
    · rw [decide_eq_false c] at hvl
      have e := hng c
      repeat' (first | (refine go ⟨?_⟩) | (((refine call ?_); (refine ⟨_, hvl _ _ (by first | omega | (simp; done) | (simp; omega)), ?_⟩); (try simp only [go_sem]))) | ((first | (refine bsp ?_ ?_) | (refine csp ?_ ?_)); all_goals (intro hb; (fail_if_success (cases hb; done)); (try simp only [decide_eq_true_eq, decide_eq_false_iff_not, beq_iff_eq, bne_iff_ne, ne_eq, beq_eq_false_iff_ne, bne_eq_false_iff_eq, Bool.not_eq_true', Bool.not_eq_false', Bool.and_eq_true, Bool.or_eq_true, Decidable.not_not] at hb); (try simp only [go_sem]))))
      refine ⟨_, _, ?_, .refl _, i + 1, ts.set i (-1), _, ⟨by omega, rfl, by simpa using h2, hnx _ (by simpa using h2) (List.take_set_of_le (by omega)) (by rw [List.getElem?_set_self (by omega), e])⟩, rfl, rfl, ?_, ?_, ?_, ?_, ?_, ?_, ?_⟩
      · omega
      all_goals rfl
  · rw [List.take_of_length_le (by omega), List.take_of_length_le (by simp; omega)] at h3
    subst h3
    clear hval
    (try refine goX ⟨?_⟩)
    (with_reducible refine c_region ?_)
    (try refine goX ⟨?_⟩)
    refine c_region_g (.trans (.share _ [sto.length + 3]) (.viewC _ (sto.length + 4) 0 _ _ _ (by simp (disch := (first | omega | assumption | ((repeat' with_reducible apply And.intro) <;> first | omega | assumption | rfl | (apply Or.inl; rfl) | (apply Or.inr; first | rfl | trivial | fail) | fail) | fail)) only [go_sem, if_pos, if_neg, wrapI, wrapU, decide_eq_true, decide_eq_false, beqT, beqF, bneT, bneF] <;> rfl) (by rfl) (by simp (disch := (first | omega | assumption | ((repeat' with_reducible apply And.intro) <;> first | omega | assumption | rfl | (apply Or.inl; rfl) | (apply Or.inr; first | rfl | trivial | fail) | fail) | fail)) only [go_sem, if_pos, if_neg, wrapI, wrapU, decide_eq_true, decide_eq_false, beqT, beqF, bneT, bneF] <;> rfl) (by omega))) (by intro h; cases h) ?_
    simp (disch := (first | omega | assumption | ((repeat' with_reducible apply And.intro) <;> first | omega | assumption | rfl | (apply Or.inl; rfl) | (apply Or.inr; first | rfl | trivial | fail) | fail) | fail)) only [go_sem, if_pos, if_neg, wrapI, wrapU, decide_eq_true, decide_eq_false, beqT, beqF, bneT, bneF]
    repeat' (first | (refine go ⟨?_⟩) | (((refine call ?_); (refine ⟨_, hput (sto.length + 1) (sto.length + 4) _ _ _ (by simp (disch := (first | omega | assumption | ((repeat' with_reducible apply And.intro) <;> first | omega | assumption | rfl | (apply Or.inl; rfl) | (apply Or.inr; first | rfl | trivial | fail) | fail) | fail)) only [go_sem, if_pos, if_neg, wrapI, wrapU, decide_eq_true, decide_eq_false, beqT, beqF, bneT, bneF]) (by simp (disch := (first | omega | assumption | ((repeat' with_reducible apply And.intro) <;> first | omega | assumption | rfl | (apply Or.inl; rfl) | (apply Or.inr; first | rfl | trivial | fail) | fail) | fail)) only [go_sem, if_pos, if_neg, wrapI, wrapU, decide_eq_true, decide_eq_false, beqT, beqF, bneT, bneF] <;> simp [LI, SL]) (by simp (disch := (first | omega | assumption | ((repeat' with_reducible apply And.intro) <;> first | omega | assumption | rfl | (apply Or.inl; rfl) | (apply Or.inr; first | rfl | trivial | fail) | fail) | fail)) only [go_sem, if_pos, if_neg, wrapI, wrapU, decide_eq_true, decide_eq_false, beqT, beqF, bneT, bneF] <;> rfl) (by first | omega | (simp; done) | (simp; omega)), ?_⟩); (try simp only [go_sem]))) | ((first | (refine bsp ?_ ?_) | (refine csp ?_ ?_)); all_goals (intro hb; (fail_if_success (cases hb; done)); (try simp only [decide_eq_true_eq, decide_eq_false_iff_not, beq_iff_eq, bne_iff_ne, ne_eq, beq_eq_false_iff_ne, bne_eq_false_iff_eq, Bool.not_eq_true', Bool.not_eq_false', Bool.and_eq_true, Bool.or_eq_true, Decidable.not_not] at hb); (try simp only [go_sem]))))
    refine ⟨by first | exact .inr rfl | exact .inl rfl, .inl ⟨[], _, (by dsimp only [Tryd.f25]; exact sv), ?_, by simp⟩⟩
    rfl
end Go.Proofs.YtomameefmobnlaaDoor
namespace Go.Proofs.YtomameefmobnlaaDoor
open Go Go.RowKit

attribute [local irreducible] EvOps EvC
attribute [local go_sem] List.getElem?_toArray List.flatten_cons List.flatten_nil List.contains_nil List.append_nil getS
set_option linter.unusedSimpArgs false
set_option linter.unusedVariables false
set_option maxRecDepth 100000
set_option maxHeartbeats 4000000
theorem keys_ev (mid : Nat) (sto : Sto) (lo : Nat) (hlo : lo ≤ sto.length) : CallEv Tryd.prog tab B0 47 [.map mid] sto lo (.clo 69 [sto.length]) (sto ++ [.cells [.map mid]]) := by
  refine CallEv.intro ⟨_, _, [], Tryd.func47, rfl, by decide, ?_⟩; simp only [go_sem, Tryd.ntmps47]
  repeat' (first | (refine go ⟨?_⟩) | (fail) | ((first | (refine bsp ?_ ?_) | (refine csp ?_ ?_)); all_goals (intro hb; (fail_if_success (cases hb; done)); (try simp only [decide_eq_true_eq, decide_eq_false_iff_not, beq_iff_eq, bne_iff_ne, ne_eq, beq_eq_false_iff_ne, bne_eq_false_iff_eq, Bool.not_eq_true', Bool.not_eq_false', Bool.and_eq_true, Bool.or_eq_true, Decidable.not_not] at hb); (try simp only [go_sem]))))
  refine ⟨by first | exact .inr rfl | exact .inl rfl, .inr (.inl ⟨_, rfl, ?_, ?_⟩)⟩
  · rfl
  · rfl
/-- The variables of a term, in increasing order. -/
def varsK (t : Tr) : List Int := keysS (mkK (visK t []))
theorem vars_ev (t : Tr) (hs : tsz t < 1000000) (hb : ∀ n ∈ visK t [], Big n) (hl : (visK t []).length ≤ 1000000) (sto : Sto) (lo : Nat) (hlo : lo ≤ sto.length) : CallEv Tryd.prog tab sortB 17 [.v (TV t)] sto lo (.v (LI (varsK t))) sto := by
  have hvis := fun fb vb mid h1 h2 sto lo q1 q2 q3 q4 q5 => (visit_ev fb vb mid h1 h2 (tsz t) t [] sto lo (Nat.le_refl _) hs q1 q2 q3 q4 q5).up0 (B := sortB)
  have hky := fun mid sto lo hlo => (keys_ev mid sto lo hlo).up0 (B := sortB)
  have hlen : (mkK (visK t [])).length = (visK t []).length := by simp [mkK]
  have hsrt : ∀ (bid mid : Nat) (sto : Sto) (lo : Nat), sto[bid]? = some (.cells [.map mid]) → sto[mid]? = some (.map .i64 (mkK (visK t []))) → CallEv Tryd.prog tab sortB 46 [.clo 69 [bid]] sto lo (.arr sto.length (varsK t).length) (sto ++ [.arr (if (mkK (visK t [])).length = 0 then none else some (3, 1)) true (varsK t).length ((varsK t).map VI)]) := by
    intro bid mid sto lo h1 h2
    rw [varsK, keysS_length]
    refine CallEv.base ⟨rfl, bid, mid, _, rfl, h1, h2, by rw [hlen]; exact hl, fun kv hkv => ?_, rfl, rfl⟩
    obtain ⟨n, hn, rfl⟩ := List.mem_map.1 hkv
    exact hb n hn
  generalize (if (mkK (visK t [])).length = 0 then none else some (3, 1) : Option (TypeId × Nat)) = es at hsrt
  clear hb hl hlen
  generalize visK t [] = ns at *
  generalize varsK t = vs at *
  obtain ⟨k, n, m, l⟩ := t
  refine CallEv.intro ⟨_, _, [], Tryd.func17, rfl, by decide, ?_⟩; simp only [go_sem, Tryd.ntmps17]
  repeat' (first | (refine go ⟨?_⟩) | (fail) | ((first | (refine bsp ?_ ?_) | (refine csp ?_ ?_)); all_goals (intro hb; (fail_if_success (cases hb; done)); (try simp only [decide_eq_true_eq, decide_eq_false_iff_not, beq_iff_eq, bne_iff_ne, ne_eq, beq_eq_false_iff_ne, bne_eq_false_iff_eq, Bool.not_eq_true', Bool.not_eq_false', Bool.and_eq_true, Bool.or_eq_true, Decidable.not_not] at hb); (try simp only [go_sem]))))
  ((with_reducible apply ops_callW); rfl; (simp (disch := (first | omega | assumption | ((repeat' with_reducible apply And.intro) <;> first | omega | assumption | rfl | (apply Or.inl; rfl) | (apply Or.inr; first | rfl | trivial | fail) | fail) | fail)) only [go_sem, if_pos, if_neg, wrapI, wrapU, decide_eq_true, decide_eq_false, beqT, beqF, bneT, bneF] <;> rfl); (exact hvis (sto.length + 2) (sto.length + 3) (sto.length + 1) (by omega) (by omega) _ _ (by simp (disch := (first | omega | assumption | ((repeat' with_reducible apply And.intro) <;> first | omega | assumption | rfl | (apply Or.inl; rfl) | (apply Or.inr; first | rfl | trivial | fail) | fail) | fail)) only [go_sem, if_pos, if_neg, wrapI, wrapU, decide_eq_true, decide_eq_false, beqT, beqF, bneT, bneF] <;> rfl) (by simp (disch := (first | omega | assumption | ((repeat' with_reducible apply And.intro) <;> first | omega | assumption | rfl | (apply Or.inl; rfl) | (apply Or.inr; first | rfl | trivial | fail) | fail) | fail)) only [go_sem, if_pos, if_neg, wrapI, wrapU, decide_eq_true, decide_eq_false, beqT, beqF, bneT, bneF] <;> rfl) (by simp (disch := (first | omega | assumption | ((repeat' with_reducible apply And.intro) <;> first | omega | assumption | rfl | (apply Or.inl; rfl) | (apply Or.inr; first | rfl | trivial | fail) | fail) | fail)) only [go_sem, if_pos, if_neg, wrapI, wrapU, decide_eq_true, decide_eq_false, beqT, beqF, bneT, bneF] <;> rfl) (by omega) (by first | omega | (simp; done) | (simp; omega))); ((try simp only [go_sem]); (first | exact ho_arr | exact ho_arr2 | exact ho_map | exact ho_app (by first | omega | (simp; done) | (simp; omega)) | exact ho_app2 (by first | omega | (simp; done) | (simp; omega)))); (try simp only [go_sem]))
  (try refine go ⟨?_⟩)
  ((with_reducible apply ops_callW); rfl; (simp (disch := (first | omega | assumption | ((repeat' with_reducible apply And.intro) <;> first | omega | assumption | rfl | (apply Or.inl; rfl) | (apply Or.inr; first | rfl | trivial | fail) | fail) | fail)) only [go_sem, if_pos, if_neg, wrapI, wrapU, decide_eq_true, decide_eq_false, beqT, beqF, bneT, bneF] <;> rfl); (exact hky _ _ _ (by first | omega | (simp; done) | (simp; omega))); ((try simp only [go_sem]); (first | exact ho_arr | exact ho_arr2 | exact ho_map | exact ho_app (by first | omega | (simp; done) | (simp; omega)) | exact ho_app2 (by first | omega | (simp; done) | (simp; omega)))); (try simp only [go_sem]))
  ((with_reducible apply ops_callW); rfl; (simp (disch := (first | omega | assumption | ((repeat' with_reducible apply And.intro) <;> first | omega | assumption | rfl | (apply Or.inl; rfl) | (apply Or.inr; first | rfl | trivial | fail) | fail) | fail)) only [go_sem, if_pos, if_neg, wrapI, wrapU, decide_eq_true, decide_eq_false, beqT, beqF, bneT, bneF] <;> rfl); (exact hsrt _ (sto.length + 1) _ _ (by simp (disch := (first | omega | assumption | ((repeat' with_reducible apply And.intro) <;> first | omega | assumption | rfl | (apply Or.inl; rfl) | (apply Or.inr; first | rfl | trivial | fail) | fail) | fail)) only [go_sem, if_pos, if_neg, wrapI, wrapU, decide_eq_true, decide_eq_false, beqT, beqF, bneT, bneF] <;> rfl) (by simp (disch := (first | omega | assumption | ((repeat' with_reducible apply And.intro) <;> first | omega | assumption | rfl | (apply Or.inl; rfl) | (apply Or.inr; first | rfl | trivial | fail) | fail) | fail)) only [go_sem, if_pos, if_neg, wrapI, wrapU, decide_eq_true, decide_eq_false, beqT, beqF, bneT, bneF] <;> rfl)); ((try simp only [go_sem]); (first | exact ho_arr | exact ho_arr2 | exact ho_map | exact ho_app (by first | omega | (simp; done) | (simp; omega)) | exact ho_app2 (by first | omega | (simp; done) | (simp; omega)))); (try simp only [go_sem]))
  (try refine go ⟨?_⟩)
  refine ⟨by first | exact .inr rfl | exact .inl rfl, .inl ⟨[sto.length + 5], _, (by dsimp only [Tryd.f17]; exact sv), ?_, by simp⟩⟩
  rfl
end Go.Proofs.YtomameefmobnlaaDoor
namespace Go.Proofs.YtomameefmobnlaaDoor
open Go Go.RowKit

attribute [local irreducible] EvOps EvC
attribute [local go_sem] List.getElem?_toArray getS List.flatten_cons List.flatten_nil List.contains_nil
set_option linter.unusedSimpArgs false
set_option linter.unusedVariables false
set_option maxRecDepth 100000
set_option maxHeartbeats 4000000
theorem sign_ev (a b : Int) (sto : Sto) (lo : Nat) (hlo : lo ≤ sto.length) : CallEv Tryd.prog tab B0 75 [.v (VI a), .v (VI b)] sto lo (.v (VI (sgn a b))) sto := by
  unfold sgn
  by_cases h1 : a < b
  · rw [if_pos h1]
    refine CallEv.intro ⟨_, _, [], Tryd.func75, rfl, by decide, ?_⟩; simp only [go_sem, Tryd.ntmps75]
    repeat' (first | (refine go ⟨?_⟩) | (fail) | ((first | (refine bsp ?_ ?_) | (refine csp ?_ ?_)); all_goals (intro hb; (fail_if_success (cases hb; done)); (try simp only [decide_eq_true_eq, decide_eq_false_iff_not, beq_iff_eq, bne_iff_ne, ne_eq, beq_eq_false_iff_ne, bne_eq_false_iff_eq, Bool.not_eq_true', Bool.not_eq_false', Bool.and_eq_true, Bool.or_eq_true, Decidable.not_not] at hb); (try simp only [go_sem]))))
    refine ⟨by first | exact .inr rfl | exact .inl rfl, .inl ⟨[], _, (by dsimp only [Tryd.f75]; exact sv), ?_, by simp⟩⟩
    rfl
  rw [if_neg h1]
  by_cases h2 : a > b
  · rw [if_pos h2]
    refine CallEv.intro ⟨_, _, [], Tryd.func75, rfl, by decide, ?_⟩; simp only [go_sem, Tryd.ntmps75]
    repeat' (first | (refine go ⟨?_⟩) | (fail) | ((first | (refine bsp ?_ ?_) | (refine csp ?_ ?_)); all_goals (intro hb; (fail_if_success (cases hb; done)); (try simp only [decide_eq_true_eq, decide_eq_false_iff_not, beq_iff_eq, bne_iff_ne, ne_eq, beq_eq_false_iff_ne, bne_eq_false_iff_eq, Bool.not_eq_true', Bool.not_eq_false', Bool.and_eq_true, Bool.or_eq_true, Decidable.not_not] at hb); (try simp only [go_sem]))))
    refine ⟨by first | exact .inr rfl | exact .inl rfl, .inl ⟨[], _, (by dsimp only [Tryd.f75]; exact sv), ?_, by simp⟩⟩
    rfl
  · rw [if_neg h2]
    refine CallEv.intro ⟨_, _, [], Tryd.func75, rfl, by decide, ?_⟩; simp only [go_sem, Tryd.ntmps75]
    repeat' (first | (refine go ⟨?_⟩) | (fail) | ((first | (refine bsp ?_ ?_) | (refine csp ?_ ?_)); all_goals (intro hb; (fail_if_success (cases hb; done)); (try simp only [decide_eq_true_eq, decide_eq_false_iff_not, beq_iff_eq, bne_iff_ne, ne_eq, beq_eq_false_iff_ne, bne_eq_false_iff_eq, Bool.not_eq_true', Bool.not_eq_false', Bool.and_eq_true, Bool.or_eq_true, Decidable.not_not] at hb); (try simp only [go_sem]))))
    refine ⟨by first | exact .inr rfl | exact .inl rfl, .inl ⟨[], _, (by dsimp only [Tryd.f75]; exact sv), ?_, by simp⟩⟩
    rfl
theorem cmp_first {k n m k' n' m' : Int} {l l' : List Tr} {xs ys : List Int} (hx : xs = [k, n, m]) (hy : ys = [k', n', m']) {i : Nat} (hi : i < xs.length) (hj : i < ys.length) (ht : xs.take i = ys.take i) (hne : xs[i] ≠ ys[i]) : cmpT (.mk k n m l) (.mk k' n' m' l') = sgn xs[i] ys[i] := by
  subst hx hy
  rw [cmpT]
  match i, hi with
  | 0, _ => simp at hne ⊢; simp [hne]
  | 1, _ => simp at hne ht ⊢; simp [hne, ht]
  | 2, _ => simp at hne ht ⊢; simp [hne, ht]
theorem cmp_rest {k n m k' n' m' : Int} {l l' : List Tr} (h : [k, n, m] = [k', n', m']) : cmpT (.mk k n m l) (.mk k' n' m' l') = cmpTs l l' := by
  simp at h
  rw [cmpT]; simp [h]
theorem compare_ev (N : Nat) : ∀ (a b : Tr) (sto : Sto) (lo : Nat), tsz a + tsz b ≤ N → tsz a + tsz b < 1000000 → lo ≤ sto.length → CallEv Tryd.prog tab B0 55 [.v (TV a), .v (TV b)] sto lo (.v (VI (cmpT a b))) sto := by
  induction N with
  | zero => intro a b sto lo h; have := tsz_pos a; omega
  | succ N ih =>
    intro a b sto lo hN hs hlo
    obtain ⟨k, n, m, l⟩ := a
    obtain ⟨k', n', m', l'⟩ := b
    simp only [tsz] at hN hs
    have hll := tszs_length l
    have hll' := tszs_length l'
    refine CallEv.intro ⟨_, _, [], Tryd.func55, rfl, by decide, ?_⟩; simp only [go_sem, Tryd.ntmps55]
    repeat' (first | (refine go ⟨?_⟩) | (fail) | ((first | (refine bsp ?_ ?_) | (refine csp ?_ ?_)); all_goals (intro hb; (fail_if_success (cases hb; done)); (try simp only [decide_eq_true_eq, decide_eq_false_iff_not, beq_iff_eq, bne_iff_ne, ne_eq, beq_eq_false_iff_ne, bne_eq_false_iff_eq, Bool.not_eq_true', Bool.not_eq_false', Bool.and_eq_true, Bool.or_eq_true, Decidable.not_not] at hb); (try simp only [go_sem]))))
    refine c_loop (fun mm s => ∃ (i : Nat) (xs ys : List Int), (i ≤ 3 ∧ mm = 3 - i ∧ xs = [k, n, m] ∧ ys = [k', n', m'] ∧ xs.take i = ys.take i) ∧ (s.env.length = 81 ∧ s.sto = sto ++ [.cells [.v (VI k), .v (VI n), .v (VI m), .v (.sl l.length (cellsTs l))], .cells [.v (VI k'), .v (VI n'), .v (VI m'), .v (.sl l'.length (cellsTs l'))]] ∧ s.env[2]? = some (.ptr sto.length 0) ∧ s.env[3]? = some (.ptr (sto.length + 1) 0) ∧ s.env[5]? = some (.v (LI xs)) ∧ s.env[6]? = some (.v (LI ys)) ∧ s.env[7]? = some (.v (VI i)))) (.refl _) ⟨0, _, _, ⟨by omega, rfl, rfl, rfl, rfl⟩, rfl, rfl, ?_, ?_, ?_, ?_, ?_⟩ ?_
    all_goals first | rfl | skip
    rintro mm s ⟨i, xs, ys, ⟨h1, rfl, hx, hy, ht⟩, hL, hT, k2, k3, k5, k6, k7⟩
    obtain ⟨env, st0⟩ := s; obtain ⟨J, hJ⟩ := listJ hL; rw [show (List.range 81).map J = J 0 :: J 1 :: J 2 :: J 3 :: J 4 :: J 5 :: J 6 :: J 7 :: J 8 :: J 9 :: J 10 :: J 11 :: J 12 :: J 13 :: J 14 :: J 15 :: J 16 :: J 17 :: J 18 :: J 19 :: J 20 :: J 21 :: J 22 :: J 23 :: J 24 :: J 25 :: J 26 :: J 27 :: J 28 :: J 29 :: J 30 :: J 31 :: J 32 :: J 33 :: J 34 :: J 35 :: J 36 :: J 37 :: J 38 :: J 39 :: J 40 :: J 41 :: J 42 :: J 43 :: J 44 :: J 45 :: J 46 :: J 47 :: J 48 :: J 49 :: J 50 :: J 51 :: J 52 :: J 53 :: J 54 :: J 55 :: J 56 :: J 57 :: J 58 :: J 59 :: J 60 :: J 61 :: J 62 :: J 63 :: J 64 :: J 65 :: J 66 :: J 67 :: J 68 :: J 69 :: J 70 :: J 71 :: J 72 :: J 73 :: J 74 :: J 75 :: J 76 :: J 77 :: J 78 :: J 79 :: J 80 :: [] from by kernel_rfl] at hJ; replace k2 := Option.some.inj ((congrArg (·[2]?) hJ).symm.trans k2); replace k3 := Option.some.inj ((congrArg (·[3]?) hJ).symm.trans k3); replace k5 := Option.some.inj ((congrArg (·[5]?) hJ).symm.trans k5); replace k6 := Option.some.inj ((congrArg (·[6]?) hJ).symm.trans k6); replace k7 := Option.some.inj ((congrArg (·[7]?) hJ).symm.trans k7); rw [k2, k3, k5, k6, k7] at hJ; dsimp only at hJ hT; subst hJ; replace hT := hT.symm; subst hT; clear hL k2 k3 k5 k6 k7
    have hxl : xs.length = 3 := by rw [hx]; rfl
    have hyl : ys.length = 3 := by rw [hy]; rfl
    by_cases hi : i < 3
    · have hi1 : i < xs.length := by omega
      have hi2 : i < ys.length := by omega
      by_cases hne : xs[i] = ys[i]
      · clear ih
        repeat' (first | (refine go ⟨?_⟩) | (fail) | ((first | (refine bsp ?_ ?_) | (refine csp ?_ ?_)); all_goals (intro hb; (fail_if_success (cases hb; done)); (try simp only [decide_eq_true_eq, decide_eq_false_iff_not, beq_iff_eq, bne_iff_ne, ne_eq, beq_eq_false_iff_ne, bne_eq_false_iff_eq, Bool.not_eq_true', Bool.not_eq_false', Bool.and_eq_true, Bool.or_eq_true, Decidable.not_not] at hb); (try simp only [go_sem]))))
        refine ⟨_, _, ?_, .refl _, i + 1, xs, ys, ⟨by omega, rfl, hx, hy, ?_⟩, rfl, rfl, ?_, ?_, ?_, ?_, ?_⟩
        · omega
        · rw [List.take_succ_eq_append_getElem hi1, List.take_succ_eq_append_getElem hi2, ht, hne]
        all_goals rfl
      · rw [cmp_first hx hy hi1 hi2 ht hne]
        have hsg := fun sto lo hlo => sign_ev xs[i] ys[i] sto lo hlo
        clear ih
        generalize sgn xs[i] ys[i] = r at *
        repeat' (first | (refine go ⟨?_⟩) | (((refine call ?_); (refine ⟨_, hsg _ _ (by first | omega | (simp; done) | (simp; omega)), ?_⟩); (try simp only [go_sem]))) | ((first | (refine bsp ?_ ?_) | (refine csp ?_ ?_)); all_goals (intro hb; (fail_if_success (cases hb; done)); (try simp only [decide_eq_true_eq, decide_eq_false_iff_not, beq_iff_eq, bne_iff_ne, ne_eq, beq_eq_false_iff_ne, bne_eq_false_iff_eq, Bool.not_eq_true', Bool.not_eq_false', Bool.and_eq_true, Bool.or_eq_true, Decidable.not_not] at hb); (try simp only [go_sem]))))
        refine ⟨by first | exact .inr rfl | exact .inl rfl, .inl ⟨[], _, (by dsimp only [Tryd.f55]; exact sv), ?_, by simp⟩⟩
        rfl
    · obtain rfl : i = 3 := by omega
      rw [List.take_of_length_le (by omega), List.take_of_length_le (by omega)] at ht
      rw [hx, hy] at ht
      rw [cmp_rest ht]
      clear ht hx hy
      repeat' (first | (refine go ⟨?_⟩) | (fail) | ((first | (refine bsp ?_ ?_) | (refine csp ?_ ?_)); all_goals (intro hb; (fail_if_success (cases hb; done)); (try simp only [decide_eq_true_eq, decide_eq_false_iff_not, beq_iff_eq, bne_iff_ne, ne_eq, beq_eq_false_iff_ne, bne_eq_false_iff_eq, Bool.not_eq_true', Bool.not_eq_false', Bool.and_eq_true, Bool.or_eq_true, Decidable.not_not] at hb); (try simp only [go_sem]))))
      refine c_loop (fun mm s => ∃ (i : Nat), (i ≤ l.length ∧ i ≤ l'.length ∧ mm = l.length - i ∧ cmpTs (l.drop i) (l'.drop i) = cmpTs l l') ∧ (s.env.length = 81 ∧ s.sto = sto ++ [.cells [.v (VI k), .v (VI n), .v (VI m), .v (.sl l.length (cellsTs l))], .cells [.v (VI k'), .v (VI n'), .v (VI m'), .v (.sl l'.length (cellsTs l'))]] ∧ s.env[2]? = some (.ptr sto.length 0) ∧ s.env[3]? = some (.ptr (sto.length + 1) 0) ∧ s.env[8]? = some (.v (VI i)))) (.refl _) ⟨0, ⟨by omega, by omega, rfl, rfl⟩, rfl, rfl, ?_, ?_, ?_⟩ ?_
      all_goals first | rfl | skip
      rintro mm s ⟨j, ⟨g1, g2, rfl, g3⟩, hL, hT, k2, k3, k8⟩
      obtain ⟨env, st0⟩ := s; obtain ⟨J, hJ⟩ := listJ hL; rw [show (List.range 81).map J = J 0 :: J 1 :: J 2 :: J 3 :: J 4 :: J 5 :: J 6 :: J 7 :: J 8 :: J 9 :: J 10 :: J 11 :: J 12 :: J 13 :: J 14 :: J 15 :: J 16 :: J 17 :: J 18 :: J 19 :: J 20 :: J 21 :: J 22 :: J 23 :: J 24 :: J 25 :: J 26 :: J 27 :: J 28 :: J 29 :: J 30 :: J 31 :: J 32 :: J 33 :: J 34 :: J 35 :: J 36 :: J 37 :: J 38 :: J 39 :: J 40 :: J 41 :: J 42 :: J 43 :: J 44 :: J 45 :: J 46 :: J 47 :: J 48 :: J 49 :: J 50 :: J 51 :: J 52 :: J 53 :: J 54 :: J 55 :: J 56 :: J 57 :: J 58 :: J 59 :: J 60 :: J 61 :: J 62 :: J 63 :: J 64 :: J 65 :: J 66 :: J 67 :: J 68 :: J 69 :: J 70 :: J 71 :: J 72 :: J 73 :: J 74 :: J 75 :: J 76 :: J 77 :: J 78 :: J 79 :: J 80 :: [] from by kernel_rfl] at hJ; replace k2 := Option.some.inj ((congrArg (·[2]?) hJ).symm.trans k2); replace k3 := Option.some.inj ((congrArg (·[3]?) hJ).symm.trans k3); replace k8 := Option.some.inj ((congrArg (·[8]?) hJ).symm.trans k8); rw [k2, k3, k8] at hJ; dsimp only at hJ hT; subst hJ; replace hT := hT.symm; subst hT; clear hL k2 k3 k8
      by_cases hj : j < l.length ∧ j < l'.length
      · obtain ⟨hj1, hj2⟩ := hj
        rw [cmpTs_drop hj1 hj2] at g3
        have z1 := tsz_get hj1
        have z2 := tsz_get hj2
        have hk := fun sto lo hlo => ih l[j] l'[j] sto lo (by omega) (by omega) hlo
        clear ih
        generalize ht1 : l[j] = t1 at *
        generalize ht2 : l'[j] = t2 at *
        obtain ⟨k1, n1, m1, l1⟩ := t1
        obtain ⟨k2, n2, m2, l2⟩ := t2
        generalize cmpT (.mk k1 n1 m1 l1) (.mk k2 n2 m2 l2) = c at *
        by_cases hc : c = 0
        · rw [if_neg (by simpa using hc)] at g3
          repeat' (first | (refine go ⟨?_⟩) | (fail) | ((first | (refine bsp ?_ ?_) | (refine csp ?_ ?_)); all_goals (intro hb; (fail_if_success (cases hb; done)); (try simp only [decide_eq_true_eq, decide_eq_false_iff_not, beq_iff_eq, bne_iff_ne, ne_eq, beq_eq_false_iff_ne, bne_eq_false_iff_eq, Bool.not_eq_true', Bool.not_eq_false', Bool.and_eq_true, Bool.or_eq_true, Decidable.not_not] at hb); (try simp only [go_sem]))))
          rw [ht1, ht2]
          repeat' (first | (refine go ⟨?_⟩) | (((refine call ?_); (refine ⟨_, hk _ _ (by first | omega | (simp; done) | (simp; omega)), ?_⟩); (try simp only [go_sem]))) | ((first | (refine bsp ?_ ?_) | (refine csp ?_ ?_)); all_goals (intro hb; (fail_if_success (cases hb; done)); (try simp only [decide_eq_true_eq, decide_eq_false_iff_not, beq_iff_eq, bne_iff_ne, ne_eq, beq_eq_false_iff_ne, bne_eq_false_iff_eq, Bool.not_eq_true', Bool.not_eq_false', Bool.and_eq_true, Bool.or_eq_true, Decidable.not_not] at hb); (try simp only [go_sem]))))
          refine ⟨_, _, ?_, .refl _, j + 1, ⟨by omega, by omega, rfl, g3⟩, rfl, rfl, ?_, ?_, ?_⟩
          · omega
          all_goals rfl
        · rw [if_pos hc] at g3
          rw [← g3]
          repeat' (first | (refine go ⟨?_⟩) | (fail) | ((first | (refine bsp ?_ ?_) | (refine csp ?_ ?_)); all_goals (intro hb; (fail_if_success (cases hb; done)); (try simp only [decide_eq_true_eq, decide_eq_false_iff_not, beq_iff_eq, bne_iff_ne, ne_eq, beq_eq_false_iff_ne, bne_eq_false_iff_eq, Bool.not_eq_true', Bool.not_eq_false', Bool.and_eq_true, Bool.or_eq_true, Decidable.not_not] at hb); (try simp only [go_sem]))))
          rw [ht1, ht2]
          repeat' (first | (refine go ⟨?_⟩) | (((refine call ?_); (refine ⟨_, hk _ _ (by first | omega | (simp; done) | (simp; omega)), ?_⟩); (try simp only [go_sem]))) | ((first | (refine bsp ?_ ?_) | (refine csp ?_ ?_)); all_goals (intro hb; (fail_if_success (cases hb; done)); (try simp only [decide_eq_true_eq, decide_eq_false_iff_not, beq_iff_eq, bne_iff_ne, ne_eq, beq_eq_false_iff_ne, bne_eq_false_iff_eq, Bool.not_eq_true', Bool.not_eq_false', Bool.and_eq_true, Bool.or_eq_true, Decidable.not_not] at hb); (try simp only [go_sem]))))
          refine ⟨by first | exact .inr rfl | exact .inl rfl, .inl ⟨[], _, (by dsimp only [Tryd.f55]; exact sv), ?_, by simp⟩⟩
          rfl
      · rw [cmpTs_end g1 g2 hj] at g3
        rw [← g3]
        have hsg := fun sto lo hlo => sign_ev l.length l'.length sto lo hlo
        clear ih
        generalize sgn l.length l'.length = r at *
        repeat' (first | (refine go ⟨?_⟩) | (((refine call ?_); (refine ⟨_, hsg _ _ (by first | omega | (simp; done) | (simp; omega)), ?_⟩); (try simp only [go_sem]))) | ((first | (refine bsp ?_ ?_) | (refine csp ?_ ?_)); all_goals (intro hb; (fail_if_success (cases hb; done)); (try simp only [decide_eq_true_eq, decide_eq_false_iff_not, beq_iff_eq, bne_iff_ne, ne_eq, beq_eq_false_iff_ne, bne_eq_false_iff_eq, Bool.not_eq_true', Bool.not_eq_false', Bool.and_eq_true, Bool.or_eq_true, Decidable.not_not] at hb); (try simp only [go_sem]))))
        all_goals
          refine ⟨by first | exact .inr rfl | exact .inl rfl, .inl ⟨[], _, (by dsimp only [Tryd.f55]; exact sv), ?_, by simp⟩⟩
          rfl
theorem same_ev (a b : Tr) (hs : tsz a + tsz b < 1000000) (sto : Sto) (lo : Nat) (hlo : lo ≤ sto.length) : CallEv Tryd.prog tab B0 26 [.v (TV a), .v (TV b)] sto lo (.v (.bool (decide (cmpT a b = 0)))) sto := by
  have hk := fun sto lo hlo => compare_ev _ a b sto lo (Nat.le_refl _) hs hlo
  generalize cmpT a b = c at *
  obtain ⟨k1, n1, m1, l1⟩ := a
  obtain ⟨k2, n2, m2, l2⟩ := b
  by_cases hc : c = 0
  · rw [decide_eq_true hc]
    refine CallEv.intro ⟨_, _, [], Tryd.func26, rfl, by decide, ?_⟩; simp only [go_sem, Tryd.ntmps26]
    repeat' (first | (refine go ⟨?_⟩) | (((refine call ?_); (refine ⟨_, hk _ _ (by first | omega | (simp; done) | (simp; omega)), ?_⟩); (try simp only [go_sem]))) | ((first | (refine bsp ?_ ?_) | (refine csp ?_ ?_)); all_goals (intro hb; (fail_if_success (cases hb; done)); (try simp only [decide_eq_true_eq, decide_eq_false_iff_not, beq_iff_eq, bne_iff_ne, ne_eq, beq_eq_false_iff_ne, bne_eq_false_iff_eq, Bool.not_eq_true', Bool.not_eq_false', Bool.and_eq_true, Bool.or_eq_true, Decidable.not_not] at hb); (try simp only [go_sem]))))
    refine ⟨by first | exact .inr rfl | exact .inl rfl, .inl ⟨[], _, (by dsimp only [Tryd.f26]; exact sv), ?_, by simp⟩⟩
    rfl
  · rw [decide_eq_false hc]
    refine CallEv.intro ⟨_, _, [], Tryd.func26, rfl, by decide, ?_⟩; simp only [go_sem, Tryd.ntmps26]
    repeat' (first | (refine go ⟨?_⟩) | (((refine call ?_); (refine ⟨_, hk _ _ (by first | omega | (simp; done) | (simp; omega)), ?_⟩); (try simp only [go_sem]))) | ((first | (refine bsp ?_ ?_) | (refine csp ?_ ?_)); all_goals (intro hb; (fail_if_success (cases hb; done)); (try simp only [decide_eq_true_eq, decide_eq_false_iff_not, beq_iff_eq, bne_iff_ne, ne_eq, beq_eq_false_iff_ne, bne_eq_false_iff_eq, Bool.not_eq_true', Bool.not_eq_false', Bool.and_eq_true, Bool.or_eq_true, Decidable.not_not] at hb); (try simp only [go_sem]))))
    refine ⟨by first | exact .inr rfl | exact .inl rfl, .inl ⟨[], _, (by dsimp only [Tryd.f26]; exact sv), ?_, by simp⟩⟩
    rfl
end Go.Proofs.YtomameefmobnlaaDoor
namespace Go.Proofs.YtomameefmobnlaaDoor
open Go Go.RowKit

attribute [local irreducible] EvOps EvC
attribute [local go_sem] List.getElem?_toArray List.flatten_cons List.flatten_nil List.contains_nil List.append_nil cellsTs
set_option linter.unusedSimpArgs false
set_option linter.unusedVariables false
set_option maxRecDepth 100000
set_option maxHeartbeats 4000000
instance decBig (x : Int) : Decidable (Big x) := inferInstanceAs (Decidable (_ ∧ _))
/-- What Valid answers. -/
abbrev ValidP : Prop := ∀ (t : Tr) (sto : Sto) (lo : Nat), tsz t < 1000000 → lo ≤ sto.length → CallEv Tryd.prog tab B0 13 [.v (TV t)] sto lo (.v (.tup [VI (max (validS t) 0), .bool (decide (0 ≤ validS t))])) sto
theorem livesV_ev (hval : ValidP) (sto : Sto) (lo : Nat) (hlo : lo ≤ sto.length) : CallEv Tryd.prog tab sortB 15 [] sto lo (.v (.bool true)) sto := by
  have v1 := fun sto lo hlo => (refVar_ev 0 0 sto lo hlo).up0 (B := sortB)
  have v2 := fun sto lo hlo => (refVar_ev 1 1 sto lo hlo).up0 (B := sortB)
  have b1 := fun sto lo hlo => (refBin_ev 0 lx lnum sto lo hlo).up0 (B := sortB)
  have b2 := fun sto lo hlo => (refBin_ev 3 lx (.mk 4 0 0 []) sto lo hlo).up0 (B := sortB)
  have b3 := fun sto lo hlo => (refCond_ev lc lx (.mk 4 2 0 []) sto lo hlo).up0 (B := sortB)
  have b4 := fun sto lo hlo => (refBin_ev 10 lx (.mk 4 3 0 []) sto lo hlo).up0 (B := sortB)
  have b5 := fun sto lo hlo => (refNot_ev llt sto lo hlo).up0 (B := sortB)
  have b6 := fun sto lo hlo => (refCond_ev lx lx lnum sto lo hlo).up0 (B := sortB)
  have b7 := fun sto lo hlo => (refBin_ev 0 lnum lnum sto lo hlo).up0 (B := sortB)
  have g1 : ∀ x ∈ ([3] : List Int), Big x := by intro x hx; simp at hx; subst hx; exact ⟨by decide, by decide⟩
  have g2 : ∀ x ∈ ([5] : List Int), Big x := by intro x hx; simp at hx; subst hx; exact ⟨by decide, by decide⟩
  have g3 : ∀ x ∈ ([19] : List Int), Big x := by intro x hx; simp at hx; subst hx; exact ⟨by decide, by decide⟩
  have g4 : ∀ x ∈ ([5, 1] : List Int), Big x := by intro x hx; simp at hx; rcases hx with rfl | rfl <;> exact ⟨by decide, by decide⟩
  have c1 := fun sto lo hlo => (eval_ev [3] g1 (by decide) wsum sto lo hlo).up0 (B := sortB)
  have c2 := fun sto lo hlo => (eval_ev [3] g1 (by decide) wzero sto lo hlo).up0 (B := sortB)
  have c3 := fun sto lo hlo => (eval_ev [5, 1] g4 (by decide) wchoice sto lo hlo).up0 (B := sortB)
  have c4 := fun sto lo hlo => (eval_ev [5] g2 (by decide) wchoice sto lo hlo).up0 (B := sortB)
  have c5 := fun sto lo hlo => (eval_ev [19] g3 (by decide) wless sto lo hlo).up0 (B := sortB)
  have d1 := fun sto lo hlo => (hval lchoice sto lo (by decide) hlo).up0 (B := sortB)
  have d2 := fun sto lo hlo => (hval (.mk 29 0 0 [lx, lx, lnum]) sto lo (by decide) hlo).up0 (B := sortB)
  have d3 := fun sto lo hlo => vars_ev lchoice (by decide) (by decide) (by decide) sto lo hlo
  have d4 := fun sto lo hlo => (sameInts_ev [0, 1] [0, 1] (by decide) (by decide) sto lo hlo).up0 (B := sortB)
  have d5 := fun sto lo hlo => (putV_ev hval lsum [lnum] (by decide) (by decide) (by decide) sto lo hlo).up0 (B := sortB)
  have d6 := fun sto lo hlo => (same_ev (.mk 9 0 0 [lnum, lnum]) (.mk 9 0 0 [lnum, lnum]) (by decide) sto lo hlo).up0 (B := sortB)
  rw [e1] at c1
  rw [e2] at c2
  rw [e3] at c3
  rw [e4] at c4
  rw [e5] at c5
  rw [e6] at d1
  rw [e7] at d2
  unfold varsK at d3
  rw [e8] at d3
  rw [decide_eq_true rfl] at d4
  rw [e9] at d5
  rw [e10, decide_eq_true rfl] at d6
  clear hval g1 g2 g3 g4
  refine CallEv.intro ⟨_, _, [], Tryd.func15, rfl, by decide, ?_⟩; simp only [go_sem, Tryd.ntmps15]
  repeat' (first | (refine go ⟨?_⟩) | (first | ((refine call ?_); (refine ⟨_, v1 _ _ (by first | omega | (simp; done) | (simp; omega)), ?_⟩); (try simp only [go_sem])) | ((refine call ?_); (refine ⟨_, v2 _ _ (by first | omega | (simp; done) | (simp; omega)), ?_⟩); (try simp only [go_sem])) | ((refine call ?_); (refine ⟨_, b1 _ _ (by first | omega | (simp; done) | (simp; omega)), ?_⟩); (try simp only [go_sem])) | ((refine call ?_); (refine ⟨_, b2 _ _ (by first | omega | (simp; done) | (simp; omega)), ?_⟩); (try simp only [go_sem])) | ((refine call ?_); (refine ⟨_, b3 _ _ (by first | omega | (simp; done) | (simp; omega)), ?_⟩); (try simp only [go_sem])) | ((refine call ?_); (refine ⟨_, b4 _ _ (by first | omega | (simp; done) | (simp; omega)), ?_⟩); (try simp only [go_sem])) | ((refine call ?_); (refine ⟨_, b5 _ _ (by first | omega | (simp; done) | (simp; omega)), ?_⟩); (try simp only [go_sem])) | ((refine call ?_); (refine ⟨_, b6 _ _ (by first | omega | (simp; done) | (simp; omega)), ?_⟩); (try simp only [go_sem])) | ((refine call ?_); (refine ⟨_, b7 _ _ (by first | omega | (simp; done) | (simp; omega)), ?_⟩); (try simp only [go_sem])) | ((refine call ?_); (refine ⟨_, c1 _ _ (by first | omega | (simp; done) | (simp; omega)), ?_⟩); (try simp only [go_sem])) | ((refine call ?_); (refine ⟨_, c2 _ _ (by first | omega | (simp; done) | (simp; omega)), ?_⟩); (try simp only [go_sem])) | ((refine call ?_); (refine ⟨_, c3 _ _ (by first | omega | (simp; done) | (simp; omega)), ?_⟩); (try simp only [go_sem])) | ((refine call ?_); (refine ⟨_, c4 _ _ (by first | omega | (simp; done) | (simp; omega)), ?_⟩); (try simp only [go_sem])) | ((refine call ?_); (refine ⟨_, c5 _ _ (by first | omega | (simp; done) | (simp; omega)), ?_⟩); (try simp only [go_sem])) | ((refine call ?_); (refine ⟨_, d1 _ _ (by first | omega | (simp; done) | (simp; omega)), ?_⟩); (try simp only [go_sem])) | ((refine call ?_); (refine ⟨_, d2 _ _ (by first | omega | (simp; done) | (simp; omega)), ?_⟩); (try simp only [go_sem])) | ((refine call ?_); (refine ⟨_, d3 _ _ (by first | omega | (simp; done) | (simp; omega)), ?_⟩); (try simp only [go_sem])) | ((refine call ?_); (refine ⟨_, d4 _ _ (by first | omega | (simp; done) | (simp; omega)), ?_⟩); (try simp only [go_sem])) | ((refine call ?_); (refine ⟨_, d5 _ _ (by first | omega | (simp; done) | (simp; omega)), ?_⟩); (try simp only [go_sem])) | ((refine call ?_); (refine ⟨_, d6 _ _ (by first | omega | (simp; done) | (simp; omega)), ?_⟩); (try simp only [go_sem]))) | ((first | (refine bsp ?_ ?_) | (refine csp ?_ ?_)); all_goals (intro hb; (fail_if_success (cases hb; done)); (try simp only [decide_eq_true_eq, decide_eq_false_iff_not, beq_iff_eq, bne_iff_ne, ne_eq, beq_eq_false_iff_ne, bne_eq_false_iff_eq, Bool.not_eq_true', Bool.not_eq_false', Bool.and_eq_true, Bool.or_eq_true, Decidable.not_not] at hb); (try simp only [go_sem]))))
  refine ⟨by first | exact .inr rfl | exact .inl rfl, .inl ⟨[], _, (by dsimp only [Tryd.f15]; exact sv), ?_, by simp⟩⟩
  rfl
end Go.Proofs.YtomameefmobnlaaDoor
namespace Go.Proofs.YtomameefmobnlaaDoor
open Go Go.RowKit

attribute [local irreducible] EvOps EvC
attribute [local go_sem] List.getElem?_toArray getS List.flatten_cons List.flatten_nil List.contains_nil List.append_nil
set_option linter.unusedSimpArgs false
set_option linter.unusedVariables false
set_option maxRecDepth 100000
set_option maxHeartbeats 4000000
theorem types_valid (t : Tr) : max (typesC t []).1 0 = max (validS t) 0 ∧ decide ((typesC t []).1 ≥ 0) = decide (0 ≤ validS t) := by
  obtain ⟨h1, h2⟩ := valid_eq t
  rw [h1, h2]
  unfold validS
  cases hb : (shapedS t && fitS t) with
  | true =>
    rw [Bool.and_eq_true] at hb
    have hk := (shaped_wt t hb.1).kind
    simp only [if_true]
    exact ⟨by omega, by simp; omega⟩
  | false => refine ⟨?_, ?_⟩ <;> simp <;> decide
theorem valid_ev : ValidP := by
  intro t sto lo hs hlo
  have hty := fun id sto lo h1 h2 h3 => types_ev (tsz t) t [] id sto lo (Nat.le_refl _) hs h1 h2 h3
  obtain ⟨e1, e2⟩ := types_valid t
  rw [← e1, ← e2]
  clear e1 e2
  generalize typesC t [] = c at *
  obtain ⟨c, mp⟩ := c
  dsimp only at *
  obtain ⟨k, n, m, l⟩ := t
  refine CallEv.intro ⟨_, _, [], Tryd.func13, rfl, by decide, ?_⟩; simp only [go_sem, Tryd.ntmps13]
  repeat' (first | (refine go ⟨?_⟩) | (((with_reducible apply ops_callW); rfl; (simp (disch := (first | omega | assumption | ((repeat' with_reducible apply And.intro) <;> first | omega | assumption | rfl | (apply Or.inl; rfl) | (apply Or.inr; first | rfl | trivial | fail) | fail) | fail)) only [go_sem, if_pos, if_neg, wrapI, wrapU, decide_eq_true, decide_eq_false, beqT, beqF, bneT, bneF] <;> rfl); (exact hty (sto.length + 1) _ _ (by simp (disch := (first | omega | assumption | ((repeat' with_reducible apply And.intro) <;> first | omega | assumption | rfl | (apply Or.inl; rfl) | (apply Or.inr; first | rfl | trivial | fail) | fail) | fail)) only [go_sem, if_pos, if_neg, wrapI, wrapU, decide_eq_true, decide_eq_false, beqT, beqF, bneT, bneF] <;> rfl) (by omega) (by first | omega | (simp; done) | (simp; omega))); ((try simp only [go_sem]); (first | exact ho_arr | exact ho_arr2 | exact ho_map | exact ho_app (by first | omega | (simp; done) | (simp; omega)) | exact ho_app2 (by first | omega | (simp; done) | (simp; omega)))); (try simp only [go_sem]))) | ((first | (refine bsp ?_ ?_) | (refine csp ?_ ?_)); all_goals (intro hb; (fail_if_success (cases hb; done)); (try simp only [decide_eq_true_eq, decide_eq_false_iff_not, beq_iff_eq, bne_iff_ne, ne_eq, beq_eq_false_iff_ne, bne_eq_false_iff_eq, Bool.not_eq_true', Bool.not_eq_false', Bool.and_eq_true, Bool.or_eq_true, Decidable.not_not] at hb); (try simp only [go_sem]))))
  refine ⟨by first | exact .inr rfl | exact .inl rfl, .inl ⟨[], _, (by dsimp only [Tryd.f13]; exact sv), ?_, by simp⟩⟩
  rw [show max c 0 = if 0 > c then 0 else c from by split <;> omega]
end Go.Proofs.YtomameefmobnlaaDoor
